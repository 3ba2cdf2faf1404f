/- The walk of the law PlaceWaits. No condition. -/
import Derived.Test.YtgnkhcnpjediaaaDoorLd
import Derived.Test.YtgnkhcnpjediaaaDoorWb
namespace Go.Proofs.YtgnkhcnpjediaaaDoor
open Go Go.Sy
set_option maxRecDepth 100000
set_option linter.unusedSimpArgs false
set_option linter.unusedVariables false

theorem waits_law (l : List Wi) (free : Nat) (hl : ∀ w ∈ l, inW w) (hn : l.length < 2 ^ 62) (hf : free < 4294967296) : Law Tryd.prog gl0 6 [Ws l, S free] := by
  refine Law.of (nt := 146) (res := [.tmp 4]) Tryd.mixed Tryd.func6 rfl rfl rfl rfl fun κ xc hκ => hκ.run 300 ?_
  simp (disch := omega) only [exec_succ, runR_next, runR_call, stepS, runOp, toSR, sop, rOf, ev, evs, envOf, OutOK_call, List.size_toArray, List.length_cons, List.length_nil, List.range, List.range.loop, List.getElem?_toArray, List.getElem?_cons_zero, ↓reduceIte, Nat.reduceAdd, Nat.reduceLT, Nat.zero_add, gl0]
  refine Does.ret hκ.hP hκ.hgl (wakes_ok) ⟨trivial, by simp [SV.bnd, SV.bndL], by first | (simp [SV.bnd, SV.bndL]; done) | assumption⟩ ?_
  refine hκ.run 300 ?_
  simp (disch := omega) only [sBuiltin, exec_succ, runR_next, runR_fork_false, stepS, runOp, condS, toSR, sop, rOf, sInt, sBin, sUn, sLen, ev, Env.get, setO, List.size_toArray, List.length_cons, List.length_nil, List.length_map, List.range, List.range.loop, List.getElem?_toArray, List.getElem?_cons_succ, List.getElem?_cons_zero, ↓reduceIte, Nat.reduceAdd, Nat.reduceLT, Nat.zero_add, Nat.add_one_ne_zero, Bool.not_true, gl0, Tryd.underlying22]
  refine OutOK_fork (fun h => ?_) (fun h => ?_) <;> try simp only [Bool.not_true, Bool.not_false, decide_eq_true_eq, decide_eq_false_iff_not, Bool.not_eq_true', Bool.not_eq_false', Bool.and_eq_true, Bool.or_eq_false_iff, Bool.or_eq_true, Bool.and_eq_false_iff] at h
  · simp (disch := omega) only [exec_succ, runR_next, runR_stop, stepS, runOp, toSR, sop, rOf, ev, OutOK_stop, List.size_toArray, List.length_cons, List.length_nil, List.range, List.range.loop, List.getElem?_toArray, List.getElem?_cons_zero, ↓reduceIte, Nat.reduceLT, Nat.zero_add]
    refine hκ.ret _ _ _ _ _ _ trivial rfl ?_
    rfl
  simp (disch := omega) only [exec_succ, runR_next, runR_call, stepS, runOp, toSR, sop, rOf, ev, evs, Env.get, OutOK_call, List.size_toArray, List.length_cons, List.length_nil, List.range, List.range.loop, List.getElem?_toArray, List.getElem?_cons_succ, List.getElem?_cons_zero, ↓reduceIte, Nat.reduceAdd, Nat.reduceLT, Nat.reduceEqDiff, Nat.zero_add, Nat.add_one_ne_zero, reduceCtorEq]
  have e0 := placeV_closed l free
  have c1 := place_ok l free hl (by omega) hf
  by_cases hk : askE l free = 0
  case neg =>
    rw [placeV_no hk] at c1
    have hk' : (askE l free = 0) = False := by simp [hk]
    refine Does.ret hκ.hP hκ.hgl (c1) ⟨trivial, by simp [SV.bnd, SV.bndL], by first | (simp [SV.bnd, SV.bndL]; done) | assumption⟩ ?_
    refine hκ.run 300 ?_
    simp (disch := omega) only [sBuiltin, exec_succ, runR_next, runR_fork_true, runR_stop, stepS, runOp, condS, toSR, sop, rOf, sInt, sBin, sExtract, sLen, ev, Env.get, setO, OutOK_stop, Int.cast_ofNat_Int, List.size_toArray, List.length_cons, List.length_nil, List.range, List.range.loop, List.getElem?_toArray, List.getElem?_cons_succ, List.getElem?_cons_zero, ↓reduceIte, Nat.reduceAdd, Nat.reduceLT, Nat.reduceEqDiff, Nat.zero_add, Bool.not_false, decide_true, decide_false, gl0, Tryd.underlying26, hk']
    refine hκ.ret _ _ _ _ _ _ trivial rfl ?_
    rfl
  obtain ⟨hw, hf2⟩ := askE_zero.1 hk
  rw [placeV_ok hk] at c1
  obtain ⟨g1, g2, g3, -⟩ := runP_bd free l hf2
  have hmk := okWs_mask l [] hw
  have hvs := okWs_vs l [] hw
  have hput := run_put l free
  have hpw := run_pw l free hvs
  have hon := fun k h => onM_run l free k hvs h
  have hin := run_in l free
  have c2 := fair_ok l free (runP free l).puts hl (fun p hp => by
    obtain ⟨-, -, u, hu, e⟩ := hput p hp
    have := (hl u hu).1
    have := g2 p hp
    omega) (by omega) (by omega) hf
  have hfr := fair_run l free free hf2 hf2 (fun _ h => h) hmk hvs
  rw [dif_self] at hfr
  rw [hk, hfr, show (decide ((0 : Int) = 0) && true) = true from rfl] at c2
  have hlast : (runP free (l.take l.length)).free = (runP free l).free := by rw [List.take_length]
  generalize (runP free l).puts = ps at c1 c2 g2 g3 hput hpw hon hfr
  generalize (runP free l).free = r at c1 g1 hput hin hlast
  refine Does.ret hκ.hP hκ.hgl (c1) ⟨trivial, by simp [SV.bnd, SV.bndL], by first | (simp [SV.bnd, SV.bndL]; done) | assumption⟩ ?_
  refine hκ.run 300 ?_
  simp (disch := omega) only [sBuiltin, sMakeMap, exec_succ, runR_next, runR_fork_false, runR_stop, stepS, runOp, condS, toSR, sop, rOf, rNew, sInt, sBin, sExtract, sLen, ev, Env.get, setO, OutOK_stop, List.size_toArray, List.length_cons, List.length_nil, List.length_map, List.range, List.range.loop, List.getElem?_toArray, List.getElem?_cons_succ, List.getElem?_cons_zero, ↓reduceIte, Nat.reduceAdd, Nat.reduceLT, Nat.reduceEqDiff, Nat.zero_add, Bool.not_true, decide_true, gl0, Tryd.underlying26, Tryd.mp52]
  rw [show (fun _ : List Int => (none : Option SV)) = onM (ps.take 0) from rfl]
  refine Sat.less (Sat.loop (γ := Nat) (fun k => ([(40, I k), (39, I ps.length), (38, Ps ps), (8, .mp 0), (5, Ps ps), (6, S r), (0, Ws l), (1, S free)], [(0, .map false [.i64] (onM (ps.take k)))], 1)) (fun k => ps.length - k) (fun k => k ≤ ps.length) ?round 0 (Nat.zero_le _)) (by repeat' (first | exact EnvSub.nil _ | exact HeapSub.nil _ | refine EnvSub.cons rfl ?_ | refine HeapSub.cons rfl ?_ | (refine EnvSub.cons (by simp [Env.get]; done) ?_) | (refine HeapSub.cons (by simp [Heap.get]; done) ?_))) (by repeat' (first | exact EnvSub.nil _ | exact HeapSub.nil _ | refine EnvSub.cons rfl ?_ | refine HeapSub.cons rfl ?_ | (refine EnvSub.cons (by simp [Env.get]; done) ?_) | (refine HeapSub.cons (by simp [Heap.get]; done) ?_)))
  case round =>
    intro k hk2 ih
    dsimp only at hk2 ih ⊢
    refine hκ.run 300 ?_
    simp (disch := omega) only [exec_succ, runR_next, stepS, runOp, condS, toSR, sop, sInt, sBin, ev, Env.get, List.size_toArray, List.length_cons, List.length_nil, List.range, List.range.loop, List.getElem?_toArray, List.getElem?_cons_zero, ↓reduceIte, Nat.reduceLT, Nat.reduceEqDiff, Nat.zero_add, gl0]
    refine OutOK_fork (fun h => ?_) (fun h => ?_) <;> try simp only [Bool.not_true, Bool.not_false, decide_eq_true_eq, decide_eq_false_iff_not, Bool.not_eq_true', Bool.not_eq_false', Bool.and_eq_true, Bool.or_eq_false_iff, Bool.or_eq_true, Bool.and_eq_false_iff] at h
    · have hm : ps.getD k default ∈ ps := by
        rw [List.getD, List.getElem?_eq_getElem (by omega)]; exact List.getElem_mem _
      have ht : ps.take (k + 1) = ps.take k ++ [ps.getD k default] := by
        rw [List.take_succ_eq_append_getElem (by omega), List.getD, List.getElem?_eq_getElem (by omega)]; rfl
      have hz := ih (k + 1) (by omega) (by omega)
      have hs : onM (ps.take (k + 1)) = fun ns => if ns = [(ps.getD k default).1] then some (I (ps.getD k default).2) else onM (ps.take k) ns := by
        funext ns; rw [ht, onM_snoc]
      rw [hs] at hz
      have hv := onM_new hpw (show k < ps.length by omega)
      obtain ⟨b1, b2, -⟩ := hput _ hm
      have b3 := g2 _ hm
      simp (disch := omega) only [sLookup, sLookupIn, keyS, exec_succ, runR_next, runR_need, stepS, runOp, guardS, toSR, sop, rOf, rNew, sAlloc, sAlloc0, sLoadIn, sLoad, sStoreIn, sStore, sFieldAddr, sIndexAddr, sExtract, elemT, obind, ev, svs, Env.get, Heap.get, Heap.set, takeN, cut, over, paste, aggOf, cellsS, one, ones, Value.oneCell', OutOK_need, undefS, undef, List.size_toArray, List.length_cons, List.length_nil, List.length_map, List.range, List.range.loop, List.getElem?_toArray, List.getElem?_cons_succ, List.getElem?_cons_zero, List.map_cons, List.map_nil, Option.bind_some, ↓reduceIte, Nat.reduceAdd, Nat.reduceLT, Nat.reduceEqDiff, Nat.zero_add, Nat.add_zero, Nat.add_one_ne_zero, Int.toNat_natCast, Bool.not_false, true_and, and_self, forall_const, getD_map, Tryd.sz3, Tryd.ag3, Tryd.underlying26, Tryd.sz31, Tryd.ag31, Tryd.ze31, Tryd.ar31, Tryd.fd31f0, Tryd.mp52, eP]
      (repeat (refine ⟨by first | omega | (refine ⟨?_, ?_⟩ <;> omega) | trivial | (simp; done) | decide +kernel, fun _ => ?_⟩))
      generalize ps.getD k default = p at hv b1 b2 b3 hz ⊢
      simp (disch := omega) only [exec_succ, runR_next, runR_guard_ff, runR_call, stepS, runOp, guardS, toSR, sop, rOf, sLoadIn, sLoad, sFieldAddr, ev, evs, Env.get, Heap.get, takeN, cut, aggOf, OutOK_call, undefS, undef, List.getElem?_toArray, List.getElem?_cons_succ, List.getElem?_cons_zero, Option.bind_some, Option.getD_none, Option.isSome_none, ↓reduceIte, Nat.reduceLT, Nat.reduceEqDiff, Nat.zero_add, Nat.add_one_ne_zero, Bool.not_false, and_self, Tryd.sz3, Tryd.ag3, Tryd.fd31f1, hv]
      refine Does.ret hκ.hP hκ.hgl (has_ok r p.2 (by omega) ⟨by omega, by omega⟩) ⟨trivial, by simp [SV.bnd, SV.bndL], by first | (simp [SV.bnd, SV.bndL]; done) | assumption⟩ ?_
      rw [b2]
      refine hκ.run 300 ?_
      simp (disch := omega) only [exec_succ, runR_next, runR_guard_ff, runR_call, stepS, runOp, guardS, toSR, sop, rOf, sPick, sLoadIn, sLoad, sFieldAddr, ev, evs, Env.get, Heap.get, takeN, cut, aggOf, setO, OutOK_call, undefS, undef, List.getElem?_toArray, List.getElem?_cons_succ, List.getElem?_cons_zero, Option.bind_some, ↓reduceIte, Nat.reduceLT, Nat.reduceEqDiff, Nat.zero_add, Nat.add_one_ne_zero, Bool.not_false, and_self, reduceCtorEq, gl0, Tryd.sz3, Tryd.ag3, Tryd.fd31f1]
      refine Does.ret hκ.hP hκ.hgl (has_ok free p.2 (by omega) ⟨by omega, by omega⟩) ⟨trivial, by simp [SV.bnd, SV.bndL], by first | (simp [SV.bnd, SV.bndL]; done) | assumption⟩ ?_
      rw [b1]
      refine hκ.run 300 ?_
      simp (disch := omega) only [sMapUp, sMapUpIn, keyS, exec_succ, runR_next, runR_fork_false, runR_guard_ff, runR_stop, stepS, runOp, guardS, condS, toSR, sop, rOf, sPick, sLoadIn, sLoad, sInt, sBin, sUn, sFieldAddr, ev, Env.get, Heap.get, Heap.set, takeN, cut, aggOf, idFree, idFree', setO, OutOK_stop, undefS, undef, List.size_toArray, List.length_cons, List.length_nil, List.range, List.range.loop, List.getElem?_toArray, List.getElem?_cons_succ, List.getElem?_cons_zero, Option.bind_some, ↓reduceIte, Nat.reduceAdd, Nat.reduceLT, Nat.reduceEqDiff, Nat.zero_add, Nat.add_zero, Nat.add_one_ne_zero, Bool.not_true, Bool.not_false, and_self, wrap_i64, gl0, Tryd.sz3, Tryd.ag3, Tryd.fd31f0, Tryd.fd31f1, Tryd.mp52]
      refine Sat.via (fun i => i) (hz) (by intro i j; (repeat (first | omega | split))) (by repeat' (first | exact EnvVia.nil | refine EnvVia.cons (by first | trivial | decide | (simp [SV.bnd, SV.bndL]; done)) rfl ?_)) (by repeat' (first | exact HeapVia.nil | refine HeapVia.cons (by decide) (by first | trivial | (simp [Blk.bnd, SV.bnd, SV.bndL]; done) | exact bndL_mapV _ _ _ | exact LR.bnd (by rw [l2]; simp [bndE, SV.bnd, SV.bndL]) (by rw [l6]; decide)) (by first | rfl | (simp only [Blk.ren, renL_mapV]; rfl) | (rw [LR.ren (by rw [l2] <;> rfl) (by rw [l6] <;> rfl)]; rfl)) ?_)) ⟨by have := hκ.hm; (try dsimp only at this); (first | done | omega), fun i hi => by have := hκ.hm; (try dsimp only at this); (first | omega | (dsimp only; omega) | (rw [if_neg (by omega)]))⟩ ⟨by simp, rfl⟩
    · obtain rfl : k = ps.length := by omega
      rw [List.take_length]
      simp (disch := omega) only [sBuiltin, exec_succ, runR_next, runR_stop, stepS, runOp, goS, toSR, sop, rOf, sLen, ev, Env.get, exitTo, OutOK_stop, List.size_toArray, List.length_cons, List.length_nil, List.length_map, List.range, List.range.loop, List.getElem?_toArray, List.getElem?_cons_succ, List.getElem?_cons_zero, ↓reduceIte, Nat.reduceAdd, Nat.reduceLT, Nat.zero_add, Nat.add_one_ne_zero, beq_self_eq_true, Tryd.underlying22]
      refine Sat.less (Sat.loop (γ := Nat) (fun k => ([(73, I k), (72, I l.length), (71, Ws l), (13, S (dif free (runP free (l.take k)).free)), (8, .mp 0), (5, Ps ps), (6, S r), (0, Ws l), (1, S free)], [(0, .map false [.i64] (onM ps))], 1)) (fun k => l.length - k) (fun k => k ≤ l.length) ?round2 0 (Nat.zero_le _)) (by
        rw [show (runP free (List.take 0 l)).free = free from rfl, dif_self]; exact (by repeat' (first | exact EnvSub.nil _ | exact HeapSub.nil _ | refine EnvSub.cons rfl ?_ | refine HeapSub.cons rfl ?_ | (refine EnvSub.cons (by simp [Env.get]; done) ?_) | (refine HeapSub.cons (by simp [Heap.get]; done) ?_)))) (by repeat' (first | exact EnvSub.nil _ | exact HeapSub.nil _ | refine EnvSub.cons rfl ?_ | refine HeapSub.cons rfl ?_ | (refine EnvSub.cons (by simp [Env.get]; done) ?_) | (refine HeapSub.cons (by simp [Heap.get]; done) ?_)))
      case round2 =>
        intro k hk3 ih2
        dsimp only at hk3 ih2 ⊢
        refine hκ.run 300 ?_
        simp (disch := omega) only [exec_succ, runR_next, stepS, runOp, condS, toSR, sop, sInt, sBin, ev, Env.get, List.size_toArray, List.length_cons, List.length_nil, List.range, List.range.loop, List.getElem?_toArray, List.getElem?_cons_zero, ↓reduceIte, Nat.reduceLT, Nat.reduceEqDiff, Nat.zero_add, gl0]
        refine OutOK_fork (fun h => ?_) (fun h => ?_) <;> try simp only [Bool.not_true, Bool.not_false, decide_eq_true_eq, decide_eq_false_iff_not, Bool.not_eq_true', Bool.not_eq_false', Bool.and_eq_true, Bool.or_eq_false_iff, Bool.or_eq_true, Bool.and_eq_false_iff] at h
        · have hm : l.getD k default ∈ l := by
            rw [List.getD, List.getElem?_eq_getElem (by omega)]; exact List.getElem_mem _
          have hs := runP_take (free := free) (l := l) (k := k) (by omega)
          obtain ⟨f1, -⟩ := runP_bd free (l.take k) hf2
          have f2 := run_in (l.take k) free
          have hv := hon k (by omega)
          have hz := ih2 (k + 1) (by omega) (by omega)
          rw [hs] at hz
          have hmk := hmk _ hm
          obtain ⟨v1, a1, m1⟩ := hl _ hm
          simp (disch := omega) only [sLookup, sLookupIn, keyS, exec_succ, runR_next, runR_need, runR_call, stepS, runOp, toSR, sop, rOf, rNew, sAlloc, sAlloc0, sLoadIn, sLoad, sStoreIn, sStore, sFieldAddr, sIndexAddr, sExtract, elemT, obind, ev, evs, svs, Env.get, Heap.get, Heap.set, takeN, cut, over, paste, aggOf, cellsS, one, ones, Value.oneCell', OutOK_need, OutOK_call, undefS, undef, List.size_toArray, List.length_cons, List.length_nil, List.length_map, List.range, List.range.loop, List.getElem?_toArray, List.getElem?_cons_succ, List.getElem?_cons_zero, List.map_cons, List.map_nil, ↓reduceIte, Nat.reduceAdd, Nat.reduceLT, Nat.reduceEqDiff, Nat.zero_add, Nat.add_zero, Nat.add_one_ne_zero, Int.toNat_natCast, true_and, and_self, forall_const, reduceCtorEq, getD_map, Tryd.sz3, Tryd.ag3, Tryd.underlying22, Tryd.sz34, Tryd.ag34, Tryd.sz36, Tryd.ag36, Tryd.ze36, Tryd.ar36, Tryd.fd36f0, Tryd.fd36f2, Tryd.mp52, eW]
          (repeat (refine ⟨by first | omega | (refine ⟨?_, ?_⟩ <;> omega) | trivial | (simp; done) | decide +kernel, fun _ => ?_⟩))
          generalize l.getD k default = w at hv hmk v1 a1 m1 hz ⊢
          generalize runP free (l.take k) = st at f1 f2 hv hz ⊢
          obtain ⟨fr, ps2, ws2, mv2⟩ := st
          dsimp only at f1 f2 hv hz ⊢
          have hd : dif free fr < 256 := Nat.lt_of_le_of_lt (dif_le _ _) hf2
          have ha := alw_lt w.m free
          cases ht : takesW w fr with
          | none =>
            rw [ht, Option.map_none] at hv
            simp only [stepP, ht] at hz
            have h0 := none_in ht hmk f1 hf2
            simp (disch := omega) only [Option.getD_none, Option.isSome_none, hv]
            refine Does.ret hκ.hP hκ.hgl (allows_ok w.m free m1 hf) ⟨trivial, by simp [SV.bnd, SV.bndL], by first | (simp [SV.bnd, SV.bndL]; done) | assumption⟩ ?_
            refine hκ.run 300 ?_
            simp (disch := omega) only [exec_succ, runR_next, runR_fork_true, runR_call, stepS, runOp, condS, toSR, sop, rOf, sUn, ev, evs, Env.get, setO, OutOK_call, List.size_toArray, List.length_cons, List.length_nil, List.range, List.range.loop, List.getElem?_toArray, List.getElem?_cons_succ, List.getElem?_cons_zero, ↓reduceIte, Nat.reduceAdd, Nat.reduceLT, Nat.reduceEqDiff, Nat.zero_add, Bool.not_false, gl0]
            refine Does.ret hκ.hP hκ.hgl (within_ok (alw w.m free) (dif free fr) (by omega) (by omega)) ⟨trivial, by simp [SV.bnd, SV.bndL], by first | (simp [SV.bnd, SV.bndL]; done) | assumption⟩ ?_
            rw [Nat.mod_eq_of_lt ha, decide_eq_true h0]
            refine hκ.run 300 ?_
            simp (disch := omega) only [exec_succ, runR_next, runR_fork_false, runR_stop, stepS, runOp, condS, goS, toSR, sop, rOf, sInt, sBin, sUn, ev, Env.get, setO, exitTo, OutOK_stop, List.size_toArray, List.length_cons, List.length_nil, List.range, List.range.loop, List.getElem?_toArray, List.getElem?_cons_succ, List.getElem?_cons_zero, ↓reduceIte, Nat.reduceAdd, Nat.reduceLT, Nat.reduceEqDiff, Nat.zero_add, Bool.not_true, beq_self_eq_true, wrap_i64, gl0]
            refine Sat.via (fun i => i) (hz) (by intro i j; (repeat (first | omega | split))) (by repeat' (first | exact EnvVia.nil | refine EnvVia.cons (by first | trivial | decide | (simp [SV.bnd, SV.bndL]; done)) rfl ?_)) (by repeat' (first | exact HeapVia.nil | refine HeapVia.cons (by decide) (by first | trivial | (simp [Blk.bnd, SV.bnd, SV.bndL]; done) | exact bndL_mapV _ _ _ | exact LR.bnd (by rw [l2]; simp [bndE, SV.bnd, SV.bndL]) (by rw [l6]; decide)) (by first | rfl | (simp only [Blk.ren, renL_mapV]; rfl) | (rw [LR.ren (by rw [l2] <;> rfl) (by rw [l6] <;> rfl)]; rfl)) ?_)) ⟨by have := hκ.hm; (try dsimp only at this); (first | done | omega), fun i hi => by have := hκ.hm; (try dsimp only at this); (first | omega | (dsimp only; omega) | (rw [if_neg (by omega)]))⟩ ⟨by simp, rfl⟩
          | some c =>
            rw [ht, Option.map_some] at hv
            simp only [stepP, ht] at hz
            obtain ⟨q1, q2⟩ := some_has ht f2 hmk f1 hf2
            obtain ⟨c1, c2⟩ := takes_bd ht
            have q3 := some_at ht hmk f1 hf2
            have hda := dif_ahead f2 (takes_in ht)
            have hp := pow_lt_256 (c := c.toNat) (by omega)
            simp (disch := omega) only [Option.getD_some, Option.isSome_some, hv]
            refine Does.ret hκ.hP hκ.hgl (allows_ok w.m free m1 hf) ⟨trivial, by simp [SV.bnd, SV.bndL], by first | (simp [SV.bnd, SV.bndL]; done) | assumption⟩ ?_
            refine hκ.run 300 ?_
            simp (disch := omega) only [exec_succ, runR_next, runR_fork_false, runR_call, stepS, runOp, condS, toSR, sop, rOf, sUn, ev, evs, Env.get, setO, OutOK_call, List.size_toArray, List.length_cons, List.length_nil, List.range, List.range.loop, List.getElem?_toArray, List.getElem?_cons_succ, List.getElem?_cons_zero, ↓reduceIte, Nat.reduceAdd, Nat.reduceLT, Nat.reduceEqDiff, Nat.zero_add, Bool.not_true, gl0]
            refine Does.ret hκ.hP hκ.hgl (has_ok (alw w.m free) c (by omega) ⟨by omega, by omega⟩) ⟨trivial, by simp [SV.bnd, SV.bndL], by first | (simp [SV.bnd, SV.bndL]; done) | assumption⟩ ?_
            rw [q1]
            refine hκ.run 300 ?_
            simp (disch := omega) only [exec_succ, runR_next, runR_guard_ff, runR_call, stepS, runOp, guardS, toSR, sop, rOf, sUn, ev, evs, Env.get, setO, OutOK_call, undefS, undef, List.getElem?_toArray, List.getElem?_cons_succ, List.getElem?_cons_zero, Option.bind_some, ↓reduceIte, Nat.reduceLT, Nat.reduceEqDiff, Bool.not_true, Bool.not_false, and_self, gl0]
            refine Does.ret hκ.hP hκ.hgl (has_ok (dif free fr) c (by omega) ⟨by omega, by omega⟩) ⟨trivial, by simp [SV.bnd, SV.bndL], by first | (simp [SV.bnd, SV.bndL]; done) | assumption⟩ ?_
            rw [q2]
            refine hκ.run 300 ?_
            simp (disch := omega) only [exec_succ, runR_next, runR_guard_ff, runR_call, stepS, runOp, guardS, toSR, sop, rOf, sPick, sLoadIn, sLoad, sFieldAddr, ev, evs, Env.get, Heap.get, takeN, cut, aggOf, setO, OutOK_call, undefS, undef, List.getElem?_toArray, List.getElem?_cons_succ, List.getElem?_cons_zero, Option.bind_some, ↓reduceIte, Nat.reduceLT, Nat.reduceEqDiff, Nat.zero_add, Nat.add_one_ne_zero, Bool.not_false, and_self, gl0, Tryd.sz3, Tryd.ag3, Tryd.fd36f1]
            refine Does.ret hκ.hP hκ.hgl (has_ok (alw w.m free) w.a (by omega) a1) ⟨trivial, by simp [SV.bnd, SV.bndL], by first | (simp [SV.bnd, SV.bndL]; done) | assumption⟩ ?_
            cases hb1 : hasB (alw w.m free) w.a
            · refine hκ.run 300 ?_
              simp (disch := omega) only [exec_succ, runR_next, runR_need, runR_fork_false, runR_guard_ff, runR_guard_ft, runR_stop, stepS, runOp, guardS, condS, toSR, sop, rOf, sPick, sLoad, sInt, sEq, sEqR, sBin, sUn, sFieldAddr, ev, evs, Env.get, setO, OutOK_need, OutOK_stop, undefS, undef, List.size_toArray, List.length_cons, List.length_nil, List.range, List.range.loop, List.getElem?_toArray, List.getElem?_cons_succ, List.getElem?_cons_zero, Option.bind_some, ↓reduceIte, Nat.reduceAdd, Nat.reduceLT, Nat.reduceEqDiff, Nat.zero_add, Nat.add_one_ne_zero, Bool.not_true, Bool.not_false, and_self, shAmt_of, IntKind.bits, wrap_i64, gl0, Tryd.fd36f1]
              rw [pow32 _ (by omega), or32 (by omega) (by omega), hda]
              refine ⟨by omega, fun _ => ?_⟩
              refine Sat.via (fun i => i) (hz) (by intro i j; (repeat (first | omega | split))) (by repeat' (first | exact EnvVia.nil | refine EnvVia.cons (by first | trivial | decide | (simp [SV.bnd, SV.bndL]; done)) rfl ?_)) (by repeat' (first | exact HeapVia.nil | refine HeapVia.cons (by decide) (by first | trivial | (simp [Blk.bnd, SV.bnd, SV.bndL]; done) | exact bndL_mapV _ _ _ | exact LR.bnd (by rw [l2]; simp [bndE, SV.bnd, SV.bndL]) (by rw [l6]; decide)) (by first | rfl | (simp only [Blk.ren, renL_mapV]; rfl) | (rw [LR.ren (by rw [l2] <;> rfl) (by rw [l6] <;> rfl)]; rfl)) ?_)) ⟨by have := hκ.hm; (try dsimp only at this); (first | done | omega), fun i hi => by have := hκ.hm; (try dsimp only at this); (first | omega | (dsimp only; omega) | (rw [if_neg (by omega)]))⟩ ⟨by simp, rfl⟩
            · refine hκ.run 300 ?_
              simp (disch := omega) only [exec_succ, runR_next, runR_guard_tt, runR_guard_ff, runR_call, stepS, runOp, guardS, toSR, sop, rOf, sLoadIn, sLoad, sFieldAddr, ev, evs, Env.get, Heap.get, takeN, cut, aggOf, setO, OutOK_call, undefS, undef, List.getElem?_toArray, List.getElem?_cons_succ, List.getElem?_cons_zero, Option.bind_some, ↓reduceIte, Nat.reduceLT, Nat.reduceEqDiff, Nat.zero_add, Nat.add_one_ne_zero, Bool.not_true, Bool.not_false, and_self, gl0, Tryd.sz3, Tryd.ag3, Tryd.fd36f1]
              refine Does.ret hκ.hP hκ.hgl (has_ok (dif free fr) w.a (by omega) a1) ⟨trivial, by simp [SV.bnd, SV.bndL], by first | (simp [SV.bnd, SV.bndL]; done) | assumption⟩ ?_
              cases hb2 : hasB (dif free fr) w.a
              · obtain rfl := q3 hb1 hb2
                refine hκ.run 300 ?_
                simp (disch := omega) only [exec_succ, runR_next, runR_need, runR_fork_false, runR_guard_tt, runR_guard_ff, runR_stop, stepS, runOp, guardS, condS, toSR, sop, rOf, sPick, sLoadIn, sLoad, sInt, sBin, sUn, sFieldAddr, ev, Env.get, Heap.get, takeN, cut, aggOf, setO, OutOK_need, OutOK_stop, undefS, undef, List.size_toArray, List.length_cons, List.length_nil, List.range, List.range.loop, List.getElem?_toArray, List.getElem?_cons_succ, List.getElem?_cons_zero, Option.bind_some, ↓reduceIte, Nat.reduceAdd, Nat.reduceLT, Nat.reduceEqDiff, Nat.zero_add, Nat.add_one_ne_zero, Bool.not_true, Bool.not_false, decide_true, and_self, shAmt_of, IntKind.bits, wrap_i64, gl0, Tryd.sz3, Tryd.ag3, Tryd.fd36f1]
                rw [pow32 _ (by omega), or32 (by omega) (by omega), hda]
                refine ⟨by omega, fun _ => ?_⟩
                refine Sat.via (fun i => i) (hz) (by intro i j; (repeat (first | omega | split))) (by repeat' (first | exact EnvVia.nil | refine EnvVia.cons (by first | trivial | decide | (simp [SV.bnd, SV.bndL]; done)) rfl ?_)) (by repeat' (first | exact HeapVia.nil | refine HeapVia.cons (by decide) (by first | trivial | (simp [Blk.bnd, SV.bnd, SV.bndL]; done) | exact bndL_mapV _ _ _ | exact LR.bnd (by rw [l2]; simp [bndE, SV.bnd, SV.bndL]) (by rw [l6]; decide)) (by first | rfl | (simp only [Blk.ren, renL_mapV]; rfl) | (rw [LR.ren (by rw [l2] <;> rfl) (by rw [l6] <;> rfl)]; rfl)) ?_)) ⟨by have := hκ.hm; (try dsimp only at this); (first | done | omega), fun i hi => by have := hκ.hm; (try dsimp only at this); (first | omega | (dsimp only; omega) | (rw [if_neg (by omega)]))⟩ ⟨by simp, rfl⟩
              · refine hκ.run 300 ?_
                simp (disch := omega) only [exec_succ, runR_next, runR_need, runR_fork_false, runR_guard_tt, runR_guard_ff, runR_guard_ft, runR_stop, stepS, runOp, guardS, condS, toSR, sop, rOf, sPick, sLoad, sInt, sEq, sEqR, sBin, sUn, sFieldAddr, ev, Env.get, setO, OutOK_need, OutOK_stop, undefS, undef, List.size_toArray, List.length_cons, List.length_nil, List.range, List.range.loop, List.getElem?_toArray, List.getElem?_cons_succ, List.getElem?_cons_zero, Option.bind_some, ↓reduceIte, Nat.reduceAdd, Nat.reduceLT, Nat.reduceEqDiff, Nat.zero_add, Nat.add_one_ne_zero, Bool.not_true, Bool.not_false, and_self, shAmt_of, IntKind.bits, wrap_i64, gl0, Tryd.fd36f1]
                rw [pow32 _ (by omega), or32 (by omega) (by omega), hda]
                refine ⟨by omega, fun _ => ?_⟩
                refine Sat.via (fun i => i) (hz) (by intro i j; (repeat (first | omega | split))) (by repeat' (first | exact EnvVia.nil | refine EnvVia.cons (by first | trivial | decide | (simp [SV.bnd, SV.bndL]; done)) rfl ?_)) (by repeat' (first | exact HeapVia.nil | refine HeapVia.cons (by decide) (by first | trivial | (simp [Blk.bnd, SV.bnd, SV.bndL]; done) | exact bndL_mapV _ _ _ | exact LR.bnd (by rw [l2]; simp [bndE, SV.bnd, SV.bndL]) (by rw [l6]; decide)) (by first | rfl | (simp only [Blk.ren, renL_mapV]; rfl) | (rw [LR.ren (by rw [l2] <;> rfl) (by rw [l6] <;> rfl)]; rfl)) ?_)) ⟨by have := hκ.hm; (try dsimp only at this); (first | done | omega), fun i hi => by have := hκ.hm; (try dsimp only at this); (first | omega | (dsimp only; omega) | (rw [if_neg (by omega)]))⟩ ⟨by simp, rfl⟩
        · obtain rfl : k = l.length := by omega
          rw [hlast]
          have hback := dif_back hin
          have hd : dif free r < 256 := Nat.lt_of_le_of_lt (dif_le _ _) hf2
          simp (disch := omega) only [exec_succ, runR_next, runR_call, stepS, runOp, goS, toSR, sop, rOf, ev, evs, Env.get, exitTo, OutOK_call, List.size_toArray, List.length_cons, List.length_nil, List.range, List.range.loop, List.getElem?_toArray, List.getElem?_cons_succ, List.getElem?_cons_zero, ↓reduceIte, Nat.reduceAdd, Nat.reduceLT, Nat.reduceEqDiff, Nat.zero_add, Nat.add_one_ne_zero, beq_self_eq_true, reduceCtorEq]
          refine Does.ret hκ.hP hκ.hgl (c2) ⟨trivial, by simp [SV.bnd, SV.bndL], by first | (simp [SV.bnd, SV.bndL]; done) | assumption⟩ ?_
          refine hκ.run 300 ?_
          simp (disch := omega) only [exec_succ, runR_next, runR_guard_tt, runR_stop, stepS, runOp, guardS, toSR, sop, rOf, sPick, sInt, sBin, sExtract, ev, Env.get, setO, OutOK_stop, undefS, undef, List.size_toArray, List.length_cons, List.length_nil, List.range, List.range.loop, List.getElem?_toArray, List.getElem?_cons_succ, List.getElem?_cons_zero, Option.bind_some, ↓reduceIte, Nat.reduceAdd, Nat.reduceLT, Nat.reduceEqDiff, Nat.zero_add, Bool.not_true, decide_true, and_self, reduceCtorEq, gl0]
          rw [or32 (by omega) (by omega), hback]
          simp (disch := omega) only [decide_true]
          refine hκ.ret _ _ _ _ _ _ trivial rfl ?_
          rfl
end Go.Proofs.YtgnkhcnpjediaaaDoor

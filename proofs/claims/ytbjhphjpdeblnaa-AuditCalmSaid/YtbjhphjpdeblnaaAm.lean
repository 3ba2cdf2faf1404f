/- Watches: admissible moments; the layer does something. No condition. -/
import Derived.Test.YtbjhphjpdeblnaaAk
namespace Go.Proofs.Ytbjhphjpdeblnaa
open Go Go.Sy
set_option maxRecDepth 100000
set_option linter.unusedSimpArgs false
set_option linter.unusedVariables false

/-- May all be where they are, behind such that have taken these? -/
def admB : Nat → List Se → Bool
  | _, [] => true
  | s, x :: l => if x.c = -1 then admB s l else if (x.r && (!x.k && (hasB x.m x.c && !hasB s x.c))) = true then admB (s ||| 2 ^ x.c.toNat) l else false
def admM (m : Mo) : Bool := rightM m && admB 0 m.2
theorem seenB_ofM {m : Mo} (hm : rightM m = true) : ∀ x ∈ m.2, seenB x = true := fun x hx => by
  rw [rightM, Bool.and_eq_true, List.all_eq_true] at hm
  obtain ⟨i, hi, rfl⟩ := List.mem_iff_getElem.1 hx
  have := hm.1 i (List.mem_range.2 hi)
  rw [momB, Bool.and_eq_true, getD_get hi] at this
  exact this.1
theorem admits_ok (m : Mo) (hm : inM m) : Con Try.prog gl0 (fnv 23) [.agg (eM m)] 0 [] (Ret (Bo (admM m))) := by
  have c1 := right_ok m hm
  have hsee := @seenB_ofM m
  obtain ⟨t, l⟩ := m
  obtain ⟨hm1, hm2, hm3⟩ := hm
  dsimp only at hm1 hm2 hm3 hsee
  refine Con.of Try.ok23 (nt := 46) (res := [.tmp 2]) Try.mixed Try.func23 rfl rfl rfl rfl fun κ xc hκ => hκ.run 300 ?_
  simp (disch := omega) only [exec_succ, runR_next, runR_call, stepS, runOp, toSR, sop, rOf, rNew, sBox, isArr, sLoadIn, sLoad, ev, evs, Env.get, Heap.get, takeN, cut, aggOf, cellsS, envOf, OutOK_call, Bool.false_eq_true, List.size_toArray, List.length_cons, List.length_nil, List.range, List.range.loop, List.getElem?_toArray, List.getElem?_cons_succ, List.getElem?_cons_zero, ↓reduceIte, Nat.reduceAdd, Nat.reduceLT, Nat.reduceEqDiff, Nat.zero_add, Int.reduceNeg, gl0, Try.sz27, Try.ag27, eM]
  refine Does.ret hκ.hP hκ.hgl (c1) ⟨trivial, by simp [SV.bnd, SV.bndL], by first | (simp [SV.bnd, SV.bndL]; done) | assumption⟩ ?_
  cases hr : rightM (t, l)
  · rw [admM, hr] at hκ
    refine hκ.run 300 ?_
    simp (disch := omega) only [exec_succ, runR_next, runR_fork_true, runR_stop, stepS, runOp, condS, toSR, sop, rOf, sUn, ev, Env.get, setO, OutOK_stop, List.size_toArray, List.length_cons, List.length_nil, List.range, List.range.loop, List.getElem?_toArray, List.getElem?_cons_succ, List.getElem?_cons_zero, ↓reduceIte, Nat.reduceLT, Nat.zero_add, Int.reduceNeg, Bool.not_false, gl0]
    refine hκ.ret _ _ _ _ _ _ trivial rfl ?_
    exact .ret trivial
  rw [admM, hr, Bool.true_and] at hκ
  dsimp only at hκ
  have hsee := hsee hr
  refine hκ.run 300 ?_
  simp (disch := omega) only [sBuiltin, exec_succ, runR_next, runR_fork_false, runR_stop, stepS, runOp, condS, toSR, sop, rOf, sLoadIn, sLoad, sUn, sFieldAddr, sLen, ev, Env.get, Heap.get, takeN, cut, aggOf, setO, OutOK_stop, List.size_toArray, List.length_cons, List.length_nil, List.length_map, List.range, List.range.loop, List.getElem?_toArray, List.getElem?_cons_succ, List.getElem?_cons_zero, ↓reduceIte, Nat.reduceAdd, Nat.reduceLT, Nat.reduceEqDiff, Nat.zero_add, Nat.add_one_ne_zero, Int.reduceNeg, Bool.not_true, gl0, Try.underlying25, Try.sz25, Try.ag25, Try.fd27f1]
  refine Sat.less (Sat.loop (γ := Nat × Nat) (fun g => ([(12, I g.1), (11, I l.length), (10, Xs l), (3, S g.2), (1, .ptr 0 0 0 0)], [(0, .own [I t, Xs l] 27)], 1)) (fun g => l.length - g.1) (fun g => g.1 ≤ l.length ∧ g.2 < 256 ∧ admB g.2 (l.drop g.1) = admB 0 l) ?round (0, 0) ⟨Nat.zero_le _, by decide, rfl⟩) (by repeat' (first | exact EnvSub.nil _ | exact HeapSub.nil _ | refine EnvSub.cons rfl ?_ | refine HeapSub.cons rfl ?_ | (refine EnvSub.cons (by simp [Env.get]; done) ?_) | (refine HeapSub.cons (by simp [Heap.get]; done) ?_))) (by repeat' (first | exact EnvSub.nil _ | exact HeapSub.nil _ | refine EnvSub.cons rfl ?_ | refine HeapSub.cons rfl ?_ | (refine EnvSub.cons (by simp [Env.get]; done) ?_) | (refine HeapSub.cons (by simp [Heap.get]; done) ?_)))
  case round =>
    rintro ⟨k, s⟩ ⟨hk, hs, hj⟩ ih
    dsimp only at hk hs hj ih ⊢
    refine hκ.run 300 ?_
    simp (disch := omega) only [exec_succ, runR_next, stepS, runOp, condS, toSR, sop, sInt, sBin, ev, Env.get, List.size_toArray, List.length_cons, List.length_nil, List.range, List.range.loop, List.getElem?_toArray, List.getElem?_cons_zero, ↓reduceIte, Nat.reduceLT, Nat.reduceEqDiff, Nat.zero_add, Int.reduceNeg, gl0]
    refine OutOK_fork (fun h => ?_) (fun h => ?_) <;> try simp only [Bool.not_true, Bool.not_false, decide_eq_true_eq, decide_eq_false_iff_not, Bool.not_eq_true', Bool.not_eq_false', Bool.and_eq_true, Bool.or_eq_false_iff, Bool.or_eq_true, Bool.and_eq_false_iff] at h
    · have hxm := getD_mem (show k < l.length by omega)
      have hx := hm2 _ hxm
      have hxs := (seenB_iff _).1 (hsee _ hxm)
      have hz := fun s h1 h2 => ih (k + 1, s) ⟨by dsimp only; omega, h1, h2⟩ (by dsimp only; omega)
      dsimp only at hz
      rw [drop_getD (by omega), admB] at hj
      simp (disch := omega) only [exec_succ, runR_next, runR_need, stepS, runOp, condS, toSR, sop, rOf, rNew, sAlloc, sAlloc0, sLoadIn, sLoad, sStoreIn, sStore, sInt, sBin, sFieldAddr, sIndexAddr, elemT, obind, ev, svs, Env.get, Heap.get, Heap.set, takeN, cut, over, paste, aggOf, cellsS, one, ones, Value.oneCell', OutOK_need, undefS, undef, List.size_toArray, List.length_cons, List.length_nil, List.length_map, List.range, List.range.loop, List.getElem?_toArray, List.getElem?_cons_succ, List.getElem?_cons_zero, List.map_cons, List.map_nil, ↓reduceIte, Nat.reduceAdd, Nat.reduceLT, Nat.reduceEqDiff, Nat.zero_add, Nat.add_one_ne_zero, Int.reduceNeg, Int.toNat_natCast, true_and, and_self, forall_const, getD_map, Try.sz3, Try.ag3, Try.underlying25, Try.sz65, Try.ag65, Try.ze65, Try.ar65, Try.fd65f4, eX]
      (repeat (refine ⟨by first | omega | (refine ⟨?_, ?_⟩ <;> omega) | trivial | (simp; done) | decide +kernel, fun _ => ?_⟩))
      obtain ⟨x, hxx⟩ : ∃ x, l.getD k default = x := ⟨_, rfl⟩
      rw [hxx] at hx hxs hj ⊢
      have c2 := has_ok x.m x.c (by omega) (by omega)
      have c3 := has_ok s x.c (by omega) (by omega)
      by_cases e1 : x.c = -1
      · rw [if_pos e1] at hj
        have hy := hz s hs hj
        have e1t : (x.c = -1) = True := by first | (simp only [eq_iff_iff, iff_true]; first | assumption | omega) | (simp; omega)
        simp (disch := omega) only [exec_succ, runR_next, runR_fork_true, runR_stop, stepS, runOp, goS, toSR, sop, rOf, sInt, sBin, ev, Env.get, exitTo, OutOK_stop, List.size_toArray, List.length_cons, List.length_nil, List.range, List.range.loop, List.getElem?_toArray, List.getElem?_cons_succ, List.getElem?_cons_zero, ↓reduceIte, Nat.reduceAdd, Nat.reduceLT, Nat.reduceEqDiff, Nat.zero_add, Int.reduceNeg, decide_true, beq_self_eq_true, wrap_i64, e1t]
        refine Sat.via (fun i => i) (hy) (by intro i j; (repeat (first | omega | split))) (by repeat' (first | exact EnvVia.nil | refine EnvVia.cons (by first | trivial | decide | (simp [SV.bnd, SV.bndL]; done)) rfl ?_)) (by repeat' (first | exact HeapVia.nil | refine HeapVia.cons (by decide) (by first | trivial | (simp [Blk.bnd, SV.bnd, SV.bndL]; done) | exact bndL_mapV _ _ _ | exact LR.bnd (by rw [l2]; simp [bndE, SV.bnd, SV.bndL]) (by rw [l6]; decide)) (by first | rfl | (simp only [Blk.ren, renL_mapV]; rfl) | (rw [LR.ren (by rw [l2] <;> rfl) (by rw [l6] <;> rfl)]; rfl)) ?_)) ⟨by have := hκ.hm; (try dsimp only at this); (first | done | omega), fun i hi => by have := hκ.hm; (try dsimp only at this); (first | omega | (dsimp only; omega) | (rw [if_neg (by omega)]))⟩ ⟨by simp, rfl⟩
      rw [if_neg e1] at hj
      simp (disch := omega) only [exec_succ, runR_next, runR_fork_false, stepS, runOp, guardS, toSR, sop, rOf, sLoadIn, sLoad, sUn, sFieldAddr, ev, Env.get, Heap.get, takeN, cut, aggOf, undefS, undef, List.size_toArray, List.length_cons, List.length_nil, List.range, List.range.loop, List.getElem?_toArray, List.getElem?_cons_succ, List.getElem?_cons_zero, Option.bind_some, ↓reduceIte, Nat.reduceAdd, Nat.reduceLT, Nat.reduceEqDiff, Nat.zero_add, Nat.add_one_ne_zero, Int.reduceNeg, Bool.not_false, decide_false, and_self, Try.sz4, Try.ag4, Try.fd65f5, Try.fd65f6, e1]
      have bad : (x.r && (!x.k && (hasB x.m x.c && !hasB s x.c))) = false → admB 0 l = false := fun h => by rw [h] at hj; simpa using hj.symm
      cases hxr : x.r
      · rw [bad (by rw [hxr]; rfl)] at hκ
        simp (disch := omega) only [exec_succ, runR_next, runR_fork_true, runR_guard_tf, runR_stop, stepS, runOp, guardS, condS, toSR, sop, rOf, sPick, sLoad, sUn, sFieldAddr, ev, evs, Env.get, OutOK_stop, undefS, undef, List.size_toArray, List.length_cons, List.length_nil, List.range, List.range.loop, List.getElem?_toArray, List.getElem?_cons_succ, List.getElem?_cons_zero, Option.bind_some, ↓reduceIte, Nat.reduceLT, Nat.reduceEqDiff, Nat.zero_add, Nat.add_one_ne_zero, Int.reduceNeg, Bool.not_false, and_self, Try.fd65f4, Try.fd65f7]
        refine hκ.ret _ _ _ _ _ _ trivial rfl ?_
        exact .ret trivial
      cases hxk : x.k
      case true =>
        rw [bad (by rw [hxk]; simp)] at hκ
        simp (disch := omega) only [exec_succ, runR_next, runR_fork_true, runR_guard_ff, runR_guard_tf, runR_stop, stepS, runOp, guardS, condS, toSR, sop, rOf, sPick, sLoadIn, sLoad, sUn, sFieldAddr, ev, evs, Env.get, Heap.get, takeN, cut, aggOf, OutOK_stop, undefS, undef, List.size_toArray, List.length_cons, List.length_nil, List.range, List.range.loop, List.getElem?_toArray, List.getElem?_cons_succ, List.getElem?_cons_zero, Option.bind_some, ↓reduceIte, Nat.reduceLT, Nat.reduceEqDiff, Nat.zero_add, Nat.add_one_ne_zero, Int.reduceNeg, Bool.not_true, Bool.not_false, and_self, Try.sz4, Try.ag4, Try.fd65f4, Try.fd65f7]
        refine hκ.ret _ _ _ _ _ _ trivial rfl ?_
        exact .ret trivial
      cases hh : hasB x.m x.c
      · rw [bad (by rw [hh]; simp)] at hκ
        rw [hh] at c2
        simp (disch := omega) only [exec_succ, runR_next, runR_guard_ff, runR_call, stepS, runOp, guardS, toSR, sop, rOf, sPick, sLoadIn, sLoad, sFieldAddr, ev, evs, Env.get, Heap.get, takeN, cut, aggOf, OutOK_call, undefS, undef, List.getElem?_toArray, List.getElem?_cons_succ, List.getElem?_cons_zero, Option.bind_some, ↓reduceIte, Nat.reduceLT, Nat.reduceEqDiff, Nat.zero_add, Nat.add_one_ne_zero, Int.reduceNeg, Bool.not_true, Bool.not_false, and_self, Try.sz3, Try.ag3, Try.sz4, Try.ag4, Try.sz63, Try.ag63, Try.fd65f4, Try.fd65f7]
        refine Does.ret hκ.hP hκ.hgl (c2) ⟨trivial, by simp [SV.bnd, SV.bndL], by first | (simp [SV.bnd, SV.bndL]; done) | assumption⟩ ?_
        refine hκ.run 300 ?_
        simp (disch := omega) only [exec_succ, runR_next, runR_fork_true, runR_guard_ff, runR_guard_tf, runR_stop, stepS, runOp, guardS, condS, toSR, sop, rOf, sPick, sLoad, sUn, sFieldAddr, ev, evs, Env.get, setO, OutOK_stop, undefS, undef, List.size_toArray, List.length_cons, List.length_nil, List.range, List.range.loop, List.getElem?_toArray, List.getElem?_cons_succ, List.getElem?_cons_zero, Option.bind_some, ↓reduceIte, Nat.reduceLT, Nat.reduceEqDiff, Nat.zero_add, Nat.add_one_ne_zero, Int.reduceNeg, Bool.not_false, and_self, gl0, Try.fd65f4]
        refine hκ.ret _ _ _ _ _ _ trivial rfl ?_
        exact .ret trivial
      rw [hh] at c2
      cases hg : hasB s x.c
      case true =>
        rw [bad (by rw [hg]; simp)] at hκ
        rw [hg] at c3
        simp (disch := omega) only [exec_succ, runR_next, runR_guard_ff, runR_call, stepS, runOp, guardS, toSR, sop, rOf, sPick, sLoadIn, sLoad, sFieldAddr, ev, evs, Env.get, Heap.get, takeN, cut, aggOf, OutOK_call, undefS, undef, List.getElem?_toArray, List.getElem?_cons_succ, List.getElem?_cons_zero, Option.bind_some, ↓reduceIte, Nat.reduceLT, Nat.reduceEqDiff, Nat.zero_add, Nat.add_one_ne_zero, Int.reduceNeg, Bool.not_true, Bool.not_false, and_self, Try.sz3, Try.ag3, Try.sz4, Try.ag4, Try.sz63, Try.ag63, Try.fd65f4, Try.fd65f7]
        refine Does.ret hκ.hP hκ.hgl (c2) ⟨trivial, by simp [SV.bnd, SV.bndL], by first | (simp [SV.bnd, SV.bndL]; done) | assumption⟩ ?_
        refine hκ.run 300 ?_
        simp (disch := omega) only [exec_succ, runR_next, runR_guard_ff, runR_call, stepS, runOp, guardS, toSR, sop, rOf, sPick, sLoadIn, sLoad, sUn, sFieldAddr, ev, evs, Env.get, Heap.get, takeN, cut, aggOf, setO, OutOK_call, undefS, undef, List.getElem?_toArray, List.getElem?_cons_succ, List.getElem?_cons_zero, Option.bind_some, ↓reduceIte, Nat.reduceLT, Nat.reduceEqDiff, Nat.zero_add, Nat.add_one_ne_zero, Int.reduceNeg, Bool.not_true, Bool.not_false, and_self, gl0, Try.sz3, Try.ag3, Try.fd65f4]
        refine Does.ret hκ.hP hκ.hgl (c3) ⟨trivial, by simp [SV.bnd, SV.bndL], by first | (simp [SV.bnd, SV.bndL]; done) | assumption⟩ ?_
        refine hκ.run 300 ?_
        simp (disch := omega) only [exec_succ, runR_next, runR_fork_true, runR_stop, stepS, runOp, condS, toSR, sop, rOf, sPick, ev, Env.get, setO, OutOK_stop, List.size_toArray, List.length_cons, List.length_nil, List.range, List.range.loop, List.getElem?_toArray, List.getElem?_cons_succ, List.getElem?_cons_zero, ↓reduceIte, Nat.reduceLT, Nat.reduceEqDiff, Nat.zero_add, Int.reduceNeg, gl0]
        refine hκ.ret _ _ _ _ _ _ trivial rfl ?_
        exact .ret trivial
      rw [hg] at c3
      simp only [hxr, hxk, hh, hg, Bool.not_false, Bool.and_self, if_true] at hj
      have hp := Nat.pow_le_pow_right (show 1 ≤ 2 by decide) (show x.c.toNat ≤ 7 by omega)
      have hpw := pow32 x.c.toNat (by omega)
      have hor := or32 (a := s) (b := 2 ^ x.c.toNat) (by omega) (by omega)
      have hlt : s ||| 2 ^ x.c.toNat < 256 := Nat.or_lt_two_pow (n := 8) hs (by omega)
      have hy := hz _ hlt hj
      simp (disch := omega) only [exec_succ, runR_next, runR_guard_ff, runR_call, stepS, runOp, guardS, toSR, sop, rOf, sPick, sLoadIn, sLoad, sFieldAddr, ev, evs, Env.get, Heap.get, takeN, cut, aggOf, OutOK_call, undefS, undef, List.getElem?_toArray, List.getElem?_cons_succ, List.getElem?_cons_zero, Option.bind_some, ↓reduceIte, Nat.reduceLT, Nat.reduceEqDiff, Nat.zero_add, Nat.add_one_ne_zero, Int.reduceNeg, Bool.not_true, Bool.not_false, and_self, Try.sz3, Try.ag3, Try.sz4, Try.ag4, Try.sz63, Try.ag63, Try.fd65f4, Try.fd65f7]
      refine Does.ret hκ.hP hκ.hgl (c2) ⟨trivial, by simp [SV.bnd, SV.bndL], by first | (simp [SV.bnd, SV.bndL]; done) | assumption⟩ ?_
      refine hκ.run 300 ?_
      simp (disch := omega) only [exec_succ, runR_next, runR_guard_ff, runR_call, stepS, runOp, guardS, toSR, sop, rOf, sPick, sLoadIn, sLoad, sUn, sFieldAddr, ev, evs, Env.get, Heap.get, takeN, cut, aggOf, setO, OutOK_call, undefS, undef, List.getElem?_toArray, List.getElem?_cons_succ, List.getElem?_cons_zero, Option.bind_some, ↓reduceIte, Nat.reduceLT, Nat.reduceEqDiff, Nat.zero_add, Nat.add_one_ne_zero, Int.reduceNeg, Bool.not_true, Bool.not_false, and_self, gl0, Try.sz3, Try.ag3, Try.fd65f4]
      refine Does.ret hκ.hP hκ.hgl (c3) ⟨trivial, by simp [SV.bnd, SV.bndL], by first | (simp [SV.bnd, SV.bndL]; done) | assumption⟩ ?_
      refine hκ.run 300 ?_
      simp (disch := omega) only [exec_succ, runR_next, runR_need, runR_fork_false, runR_stop, stepS, runOp, condS, toSR, sop, rOf, sPick, sLoadIn, sLoad, sInt, sBin, sFieldAddr, ev, Env.get, Heap.get, takeN, cut, aggOf, setO, OutOK_need, OutOK_stop, List.size_toArray, List.length_cons, List.length_nil, List.range, List.range.loop, List.getElem?_toArray, List.getElem?_cons_succ, List.getElem?_cons_zero, ↓reduceIte, Nat.reduceAdd, Nat.reduceLT, Nat.reduceEqDiff, Nat.zero_add, Nat.add_one_ne_zero, Int.reduceNeg, shAmt_of, IntKind.bits, wrap_i64, gl0, Try.sz3, Try.ag3, Try.fd65f4, hpw, hor]
      refine ⟨by omega, fun _ => ?_⟩
      refine Sat.via (fun i => i) (hy) (by intro i j; (repeat (first | omega | split))) (by repeat' (first | exact EnvVia.nil | refine EnvVia.cons (by first | trivial | decide | (simp [SV.bnd, SV.bndL]; done)) rfl ?_)) (by repeat' (first | exact HeapVia.nil | refine HeapVia.cons (by decide) (by first | trivial | (simp [Blk.bnd, SV.bnd, SV.bndL]; done) | exact bndL_mapV _ _ _ | exact LR.bnd (by rw [l2]; simp [bndE, SV.bnd, SV.bndL]) (by rw [l6]; decide)) (by first | rfl | (simp only [Blk.ren, renL_mapV]; rfl) | (rw [LR.ren (by rw [l2] <;> rfl) (by rw [l6] <;> rfl)]; rfl)) ?_)) ⟨by have := hκ.hm; (try dsimp only at this); (first | done | omega), fun i hi => by have := hκ.hm; (try dsimp only at this); (first | omega | (dsimp only; omega) | (rw [if_neg (by omega)]))⟩ ⟨by simp, rfl⟩
    · simp (disch := omega) only [exec_succ, runR_next, runR_stop, stepS, runOp, goS, toSR, sop, rOf, ev, exitTo, OutOK_stop, List.size_toArray, List.length_cons, List.length_nil, List.range, List.range.loop, List.getElem?_toArray, List.getElem?_cons_zero, ↓reduceIte, Nat.reduceLT, Nat.zero_add, Int.reduceNeg, beq_self_eq_true]
      obtain rfl : k = l.length := by omega
      rw [List.drop_length] at hj
      rw [← hj] at hκ
      refine hκ.run 300 ?_
      simp (disch := omega) only [exec_succ, runR_stop, stepS, OutOK_stop, gl0]
      refine hκ.ret _ _ _ _ _ _ trivial rfl ?_
      exact .ret trivial
def twoM : Mo := (0, [⟨1, 1, 0, 0, 0, true, false, 3, 256, 2, 50⟩, ⟨2, 1, 0, 0, -1, true, false, 3, 256, 2, 50⟩])
theorem two_ok : Con Try.prog gl0 (fnv 22) [] 0 [] (Ret (.agg (eM twoM))) := by
  refine Con.of Try.ok22 (nt := 11) (res := [.cell 0 27]) Try.mixed Try.func22 rfl rfl rfl rfl fun κ xc hκ => hκ.run 300 ?_
  simp (disch := omega) only [sBuild0, exec_succ, runR_next, runR_need, runR_stop, stepS, runOp, toSR, sop, rOf, rNew, sAlloc, sAlloc0, isArr, sLoadIn, sLoad, sStoreIn, sStore, sFieldAddr, sliceT, obind, fillS, evps, sBuild, repeatL, sBuildSlice, chunk, ev, svs, Env.get, Heap.get, Heap.set, takeN, cut, over, paste, aggOf, cellsS, one, ones, idFree, idFrees, envOf, Value.cells, Value.oneCell', OutOK_need, OutOK_stop, undefS, undef, Bool.and_true, List.drop_zero, List.drop_succ_cons, List.take_zero, List.take_succ_cons, List.take_nil, List.size_toArray, List.length_cons, List.length_nil, List.range, List.range.loop, List.getElem?_toArray, List.getElem?_cons_succ, List.getElem?_cons_zero, List.map_cons, List.map_nil, List.append_nil, List.cons_append, List.nil_append, List.toList_toArray, ↓reduceIte, Nat.reduceAdd, Nat.reduceMul, Nat.reduceLT, Nat.reduceLeDiff, Nat.reduceEqDiff, Nat.zero_add, Nat.add_zero, Nat.zero_mul, Nat.one_mul, Nat.add_one_ne_zero, Int.reduceNeg, true_and, and_self, forall_const, gl0, Try.sz3, Try.underlying25, Try.sz27, Try.ze27, Try.pl27, Try.ar27, Try.sz65, Try.ag65, Try.ze65, Try.pl65, Try.ar65, Try.fd65f0, Try.fd65f4]
  refine Sat.frzOwn [3] 0 _ _ rfl (by decide) (by first | (simp [lendPL, lendP, lendSlP, Heap.get]; done) | (simp only [lendPL, lendP, lendSlP, Heap.get, List.mem_singleton, List.mem_cons, List.not_mem_nil, or_false, or_true, true_or, Nat.reduceEqDiff, Nat.one_ne_zero, Nat.zero_ne_one, ↓reduceIte, and_true, true_and, List.length_map, List.length_append, List.length_cons, List.length_nil, List.length_replicate]; omega)) ?_
  simp only [lendL, lendS, lendSl, Heap.get, without, List.mem_singleton, List.mem_cons, List.not_mem_nil, or_false, or_true, true_or, List.drop_zero, List.take_length, List.take_succ_cons, List.take_zero, Nat.reduceAdd, Nat.reduceEqDiff, Nat.one_ne_zero, Nat.zero_ne_one, ↓reduceIte]
  simp only [Heap.set, Nat.reduceEqDiff, ↓reduceIte]
  refine hκ.ret _ _ _ _ _ _ trivial rfl ?_
  exact .ret (by simp [SV.bnd, SV.bndL, eM])
theorem wakes_ok : Con Try.prog gl0 (fnv 7) [] 0 [] (Ret (Bo true)) := by
  have i1 : inM twoM := by decide
  have i2 : ∀ m ∈ [twoM], inM m := fun m hm => by obtain rfl := List.mem_singleton.1 hm; exact i1
  have c1 : Con Try.prog gl0 (fnv 10) [noT, .agg (eM twoM)] 0 [] (Ret (.tup [Wt [twoM] 0, I 0])) :=
    Con.argR (fun _ => RelL.mapHead (Rel.aggMap nil1)) (add_ok [] 0 twoM (by simp) (by decide) i1 (by decide))
  have c2 : Con Try.prog gl0 (fnv 11) [Wt [twoM] 0, I 9] 0 [] (Ret (.tup [Wt [twoM] 9, I 0])) := pass_ok [twoM] 0 9 i2 (by decide) (by decide) (by decide)
  have c3 : Con Try.prog gl0 (fnv 16) [Wt [twoM] 9, I 1, I 3, I 9] 0 [] (Ret (.tup [I 6, I 0])) := ran_ok [twoM] 9 1 3 9 i2 (by decide) (by decide) (by decide) (by decide) (by decide)
  have c4 : Con Try.prog gl0 (fnv 17) [Wt [twoM] 9, I 2] 0 [] (Ret (.tup [.rd 2 [[I 0, I 9]], I 0])) := twaits_ok [twoM] 9 2 i2 (by decide) (by decide) (by decide)
  have c5 : Con Try.prog gl0 (fnv 23) [.agg (eM twoM)] 0 [] (Ret (Bo true)) := admits_ok twoM i1
  have hc : SV.closed (.agg (eM twoM)) := by simp [SV.bnd, SV.bndL, eM]
  refine Con.of Try.ok7 (nt := 63) (res := [.tmp 0]) Try.mixed Try.func7 rfl rfl rfl rfl fun κ xc hκ => hκ.run 300 ?_
  simp (disch := omega) only [sBuild0, exec_succ, runR_next, runR_call, stepS, runOp, toSR, sop, rOf, fillS, evps, sBuild, ev, evs, svs, envOf, OutOK_call, List.size_toArray, List.length_cons, List.length_nil, List.range, List.range.loop, List.getElem?_toArray, List.getElem?_cons_succ, List.getElem?_cons_zero, List.map_cons, List.map_nil, ↓reduceIte, Nat.reduceAdd, Nat.reduceLT, Nat.zero_add, gl0, Try.ze24, Try.pl24, Try.ar24]
  refine Does.ret hκ.hP hκ.hgl (two_ok) ⟨trivial, by simp [SV.bnd, SV.bndL], by first | (simp [SV.bnd, SV.bndL]; done) | assumption⟩ ?_
  refine hκ.run 300 ?_
  simp (disch := omega) only [exec_succ, runR_call, stepS, runOp, ev, evs, Env.get, setO, OutOK_call, List.getElem?_toArray, List.getElem?_cons_succ, List.getElem?_cons_zero, ↓reduceIte, Nat.reduceLT, Nat.reduceEqDiff, gl0]
  refine Does.ret hκ.hP hκ.hgl c1 ⟨trivial, by simp [SV.bnd, SV.bndL, eM], by simp [SV.bnd, SV.bndL]⟩ ?_
  refine hκ.run 300 ?_
  simp (disch := omega) only [exec_succ, runR_next, runR_need, runR_call, stepS, runOp, toSR, sop, rOf, rNew, sAlloc, sAlloc0, sLoadIn, sLoad, sStoreIn, sStore, sExtract, ev, evs, svs, Env.get, Heap.get, Heap.set, takeN, cut, over, paste, aggOf, cellsS, one, ones, setO, Value.oneCell', OutOK_need, OutOK_call, undefS, undef, List.size_toArray, List.length_cons, List.length_nil, List.range, List.range.loop, List.getElem?_toArray, List.getElem?_cons_succ, List.getElem?_cons_zero, List.map_cons, List.map_nil, ↓reduceIte, Nat.reduceAdd, Nat.reduceLT, Nat.reduceEqDiff, Nat.zero_add, true_and, and_self, forall_const, gl0, Try.sz24, Try.ag24, Try.ze24, Try.ar24]
  refine Does.ret hκ.hP hκ.hgl (c2) ⟨trivial, by simp [SV.bnd, SV.bndL], by first | (simp [SV.bnd, SV.bndL]; done) | assumption⟩ ?_
  refine hκ.run 300 ?_
  simp (disch := omega) only [exec_succ, runR_next, runR_need, runR_call, stepS, runOp, toSR, sop, rOf, sLoadIn, sLoad, sStoreIn, sStore, sExtract, ev, evs, Env.get, Heap.get, Heap.set, takeN, cut, over, paste, aggOf, cellsS, one, ones, setO, Value.oneCell', OutOK_need, OutOK_call, undefS, undef, List.size_toArray, List.length_cons, List.length_nil, List.range, List.range.loop, List.getElem?_toArray, List.getElem?_cons_succ, List.getElem?_cons_zero, ↓reduceIte, Nat.reduceAdd, Nat.reduceLT, Nat.reduceEqDiff, Nat.zero_add, true_and, and_self, forall_const, gl0, Try.sz24, Try.ag24]
  refine Does.ret hκ.hP hκ.hgl (c3) ⟨trivial, by simp [SV.bnd, SV.bndL], by first | (simp [SV.bnd, SV.bndL]; done) | assumption⟩ ?_
  refine hκ.run 300 ?_
  simp (disch := omega) only [exec_succ, runR_next, runR_call, stepS, runOp, toSR, sop, rOf, sLoadIn, sLoad, sExtract, ev, evs, Env.get, Heap.get, takeN, cut, aggOf, setO, OutOK_call, List.size_toArray, List.length_cons, List.length_nil, List.range, List.range.loop, List.getElem?_toArray, List.getElem?_cons_succ, List.getElem?_cons_zero, ↓reduceIte, Nat.reduceAdd, Nat.reduceLT, Nat.reduceEqDiff, Nat.zero_add, gl0, Try.sz24, Try.ag24]
  refine Does.ret hκ.hP hκ.hgl (c4) ⟨trivial, by simp [SV.bnd, SV.bndL], by first | (simp [SV.bnd, SV.bndL]; done) | assumption⟩ ?_
  refine hκ.run 300 ?_
  simp (disch := omega) only [sBuild0, sBuiltin, exec_succ, runR_next, runR_need, runR_guard_tt, runR_call, stepS, runOp, guardS, toSR, sop, rOf, sPick, isArr, sLoad, sInt, sEqAgg, aggS, eqCells, sBin, sIndexAddr, sExtract, sLen, elemT, obind, fillS, evps, sBuild, ev, evs, svs, Env.get, takeN, cut, over, paste, aggOf, cellsS, setO, Value.cells, OutOK_need, OutOK_call, undefS, undef, Int.cast_ofNat_Int, Bool.true_and, Bool.false_eq_true, List.size_toArray, List.length_cons, List.length_nil, List.range, List.range.loop, List.getElem?_toArray, List.getElem?_cons_succ, List.getElem?_cons_zero, List.getD_cons_zero, List.map_cons, List.map_nil, Option.bind_some, Option.map_some, List.toList_toArray, ↓reduceIte, Nat.reduceAdd, Nat.reduceLT, Nat.reduceEqDiff, Nat.zero_add, Int.reduceToNat, Int.reduceLT, Int.reduceLE, Bool.not_true, decide_true, true_and, and_self, forall_const, gl0, Try.underlying41, Try.sz46, Try.ag46, Try.ze46, Try.pl46, Try.eq46, Try.ar46]
  refine Does.ret hκ.hP hκ.hgl (two_ok) ⟨trivial, by simp [SV.bnd, SV.bndL], by first | (simp [SV.bnd, SV.bndL]; done) | assumption⟩ ?_
  refine hκ.run 300 ?_
  simp (disch := omega) only [exec_succ, runR_guard_tt, runR_call, stepS, runOp, guardS, ev, evs, Env.get, setO, OutOK_call, undefS, undef, List.getElem?_toArray, List.getElem?_cons_succ, List.getElem?_cons_zero, Option.bind_some, ↓reduceIte, Nat.reduceLT, Nat.reduceEqDiff, Bool.not_true, and_self, gl0]
  refine Does.ret hκ.hP hκ.hgl c5 ⟨trivial, by simp [SV.bnd, SV.bndL, eM], by simp [SV.bnd, SV.bndL]⟩ ?_
  refine hκ.run 300 ?_
  simp (disch := omega) only [exec_succ, runR_next, runR_stop, stepS, runOp, toSR, sop, rOf, sPick, ev, Env.get, setO, OutOK_stop, List.getElem?_toArray, List.getElem?_cons_succ, List.getElem?_cons_zero, ↓reduceIte, Nat.reduceLT, Nat.reduceEqDiff, gl0]
  refine hκ.ret _ _ _ _ _ _ trivial rfl ?_
  exact .ret trivial
end Go.Proofs.Ytbjhphjpdeblnaa

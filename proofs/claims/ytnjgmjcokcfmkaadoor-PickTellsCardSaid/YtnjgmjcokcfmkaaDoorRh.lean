/- PickTells: the walk of the law. No condition. -/
import Derived.Test.YtnjgmjcokcfmkaaDoorRf
import Derived.Test.YtnjgmjcokcfmkaaDoorQw
namespace Go.Proofs.YtnjgmjcokcfmkaaDoor
open Go Go.Sy
set_option maxRecDepth 100000
set_option linter.unusedSimpArgs false
set_option linter.unusedVariables false
set_option maxHeartbeats 8000000

theorem tells_law (l : List En) (w : List Wi) (free : Nat) (was is : List (Int × Int)) (hl : ∀ x ∈ l, inE0 x) (hw : ∀ x ∈ w, inW x) (hn : l.length < 2 ^ 46) (hn2 : w.length < 2 ^ 46) (hf : free < 4294967296) (hn3 : was.length < 2 ^ 46) (hn4 : is.length < 2 ^ 46) : Law Tryd.prog gl0 9 [Ak l w free, Ps was, Ps is] := by
  have co := over_ok l w free hn hn2
  refine Law.of (nt := 223) (res := [.tmp 6]) Tryd.mixed Tryd.func9 rfl rfl rfl rfl fun κ xc hκ => hκ.run 300 ?_
  simp (disch := omega) only [push_cast, simprocAttr]
  refine Does.ret hκ.hP hκ.hgl (wakes_ok) ⟨trivial, by first | (simp [SV.bnd, SV.bndL]; done) | (simp [SV.bnd, SV.bndL, ec_bnd]; done), by first | (simp [SV.bnd, SV.bndL]; done) | (simp [SV.bnd, SV.bndL, ec_bnd]; done) | assumption⟩ ?_
  refine hκ.run 300 ?_
  simp (disch := omega) only [push_cast, simprocAttr]
  refine Does.ret hκ.hP hκ.hgl co ⟨trivial, by first | (simp [SV.bnd, SV.bndL]; done) | (simp [SV.bnd, SV.bndL, ec_bnd]; done), by first | (simp [SV.bnd, SV.bndL]; done) | (simp [SV.bnd, SV.bndL, ec_bnd]; done) | assumption⟩ ?_
  cases hov : overB l w
  rotate_left
  · refine hκ.run 300 ?_
    simp (disch := omega) only [push_cast, simprocAttr]
    refine hκ.ret _ _ _ _ _ _ trivial rfl ?_
    rfl
  by_cases h1 : was.length ≤ 60
  rotate_left
  · have q1 : ((60 : Int) < was.length) = True := by first | (simp only [eq_iff_iff, iff_true]; first | assumption | omega) | (simp; omega)
    refine hκ.run 300 ?_
    simp (disch := omega) only [push_cast, simprocAttr, q1]
    refine hκ.ret _ _ _ _ _ _ trivial rfl ?_
    rfl
  by_cases h2 : is.length ≤ 60
  rotate_left
  · have q1 : ((60 : Int) < was.length) = False := by first | (simp only [eq_iff_iff, iff_false]; first | assumption | omega) | (simp; omega)
    have q2 : ((60 : Int) < is.length) = True := by first | (simp only [eq_iff_iff, iff_true]; first | assumption | omega) | (simp; omega)
    refine hκ.run 300 ?_
    simp (disch := omega) only [push_cast, simprocAttr, q1, q2]
    refine hκ.ret _ _ _ _ _ _ trivial rfl ?_
    rfl
  have q1 : ((60 : Int) < was.length) = False := by first | (simp only [eq_iff_iff, iff_false]; first | assumption | omega) | (simp; omega)
  have q2 : ((60 : Int) < is.length) = False := by first | (simp only [eq_iff_iff, iff_false]; first | assumption | omega) | (simp; omega)
  have cch := Changed_ok was is (by omega) (by omega)
  generalize hr1 : chgL qC was is = r1 at *
  generalize hr2 : chgL qW was is = r2 at *
  generalize hr3 : chgL qM was is = r3 at *
  refine hκ.run 300 ?_
  simp (disch := omega) only [push_cast, simprocAttr, q1, q2]
  (repeat (refine ⟨by first | omega | (refine ⟨?_, ?_⟩ <;> omega) | trivial | (simp; done) | decide +kernel, fun _ => ?_⟩))
  intro i
  (repeat (refine ⟨by first | omega | (refine ⟨?_, ?_⟩ <;> omega) | trivial | (simp; done) | decide +kernel, fun _ => ?_⟩))
  intro j
  refine Does.frz [2, 4] ⟨trivial, rfl⟩ (by first | (simp [lendPL, lendP, lendSlP, Heap.get]; done) | (simp only [lendPL, lendP, lendSlP, Heap.get, List.mem_singleton, List.mem_cons, List.not_mem_nil, or_false, or_true, true_or, Nat.reduceEqDiff, Nat.one_ne_zero, Nat.zero_ne_one, ↓reduceIte, and_true, true_and, List.length_map, List.length_append, List.length_cons, List.length_nil, List.length_replicate]; omega)) ?_
  simp only [lendL, lendS, lendSl, Heap.get, without, List.mem_singleton, List.mem_cons, List.not_mem_nil, or_false, or_true, true_or, List.drop_zero, List.take_length, List.take_succ_cons, List.take_zero, Nat.reduceAdd, Nat.reduceEqDiff, Nat.one_ne_zero, Nat.zero_ne_one, ↓reduceIte]
  rw [show List.take was.length (List.map eP was) = List.map eP was from List.take_of_length_le (by simp), show List.take is.length (List.map eP is) = List.map eP is from List.take_of_length_le (by simp)]
  refine Does.ret hκ.hP hκ.hgl cch ⟨trivial, by first | (simp [SV.bnd, SV.bndL]; done) | (simp [SV.bnd, SV.bndL, ec_bnd]; done), by first | (simp [SV.bnd, SV.bndL]; done) | (simp [SV.bnd, SV.bndL, ec_bnd]; done) | assumption⟩ ?_
  refine hκ.run 300 ?_
  simp (disch := omega) only [push_cast, simprocAttr, q1, q2]
  refine Sat.nilRow 10 1 3 rfl ?_
  refine Sat.nilRow 11 1 3 rfl ?_
  refine Sat.nilRow 12 1 3 rfl ?_
  refine Sat.less (Sat.loop (γ := Nat × Nat × Nat × Nat) (fun g => ([(13, I ((g.1 : Int) - 3)), (10, .sl 5 1 0 (vrf (chB qC was is) g.1).length g.2.1), (11, .sl 6 1 0 (vrf (chB qW was is) g.1).length g.2.2.1), (12, .sl 7 1 0 (vrf (chB qM was is) g.1).length g.2.2.2), (7, Is r1), (8, Is r2), (9, Is r3), (1, Ps was), (2, Ps is), (3, .ptr 0 0 0 0)],
      [(5, .row 1 g.2.1 3 ((vrf (chB qC was is) g.1).map (eI .i64))), (6, .row 1 g.2.2.1 3 ((vrf (chB qW was is) g.1).map (eI .i64))), (7, .row 1 g.2.2.2 3 ((vrf (chB qM was is) g.1).map (eI .i64))), (0, .own [Ens l, Ws w, S free] 27)], 8)) (fun g => 24 - g.1)
      (fun g => g.1 ≤ 24 ∧ (vrf (chB qC was is) g.1).length ≤ g.2.1 ∧ (vrf (chB qW was is) g.1).length ≤ g.2.2.1 ∧ (vrf (chB qM was is) g.1).length ≤ g.2.2.2) ?round (0, 0, 0, 0) ⟨by omega, by simp [vrf, vr], by simp [vrf, vr], by simp [vrf, vr]⟩) (by repeat' (first | exact EnvSub.nil _ | exact HeapSub.nil _ | refine EnvSub.cons rfl ?_ | refine HeapSub.cons rfl ?_ | (refine EnvSub.cons (by simp [Env.get]; done) ?_) | (refine HeapSub.cons (by simp [Heap.get]; done) ?_))) (by repeat' (first | exact EnvSub.nil _ | exact HeapSub.nil _ | refine EnvSub.cons rfl ?_ | refine HeapSub.cons rfl ?_ | (refine EnvSub.cons (by simp [Env.get]; done) ?_) | (refine HeapSub.cons (by simp [Heap.get]; done) ?_)))
  case round =>
    rintro ⟨n, p1, p2, p3⟩ ⟨hk, l1, l2, l3⟩ ih
    dsimp only at hk l1 l2 l3 ih ⊢
    have t1 := vrf_len (chB qC was is) n
    have t2 := vrf_len (chB qW was is) n
    have t3 := vrf_len (chB qM was is) n
    by_cases hn24 : n < 24
    · have hz := fun p1 p2 p3 h1 h2 h3 => ih (n + 1, p1, p2, p3) ⟨by omega, h1, h2, h3⟩ (by dsimp only; omega)
      dsimp only at hz
      rw [vrf_succ, vrf_succ, vrf_succ, show ((n + 1 : Nat) : Int) - 3 = (n : Int) - 3 + 1 by omega] at hz
      clear ih
      have e1 : chB qC was is ((n : Int) - 3) = ((onP is ((n : Int) - 3)).isSome && !(onP was ((n : Int) - 3)).isSome) := rfl
      have e2 : chB qW was is ((n : Int) - 3) = ((onP was ((n : Int) - 3)).isSome && !(onP is ((n : Int) - 3)).isSome) := rfl
      have e3 : chB qM was is ((n : Int) - 3) = (((onP was ((n : Int) - 3)).isSome && (onP is ((n : Int) - 3)).isSome) && !decide ((onP was ((n : Int) - 3)).getD 0 = (onP is ((n : Int) - 3)).getD 0)) := rfl
      rw [e1, e2, e3] at hz
      clear e1 e2 e3
      have k1 := rOn_ok was ((n : Int) - 3) (by omega)
      have k2 := rOn_ok is ((n : Int) - 3) (by omega)
      have k3 := On_ok is ((n : Int) - 3) (by omega)
      have k4 := rAt_ok is ((n : Int) - 3) (by omega)
      have k5 := At_ok is ((n : Int) - 3) (by omega)
      generalize vrf (chB qC was is) n = o1 at *
      generalize vrf (chB qW was is) n = o2 at *
      generalize vrf (chB qM was is) n = o3 at *
      have hv : -3 ≤ (n : Int) - 3 ∧ (n : Int) - 3 ≤ 20 := by omega
      generalize (n : Int) - 3 = v at *
      generalize (atP2 is v).getD 0 = za at *
      generalize (atP2 is v).isSome = zb at *
      have q3 : (v ≤ 20) = True := by first | (simp only [eq_iff_iff, iff_true]; first | assumption | omega) | (simp; omega)
      have et1 : List.take o1.length (List.map (eI .i64) o1) = List.map (eI .i64) o1 := List.take_of_length_le (by simp)
      have et2 : List.take o2.length (List.map (eI .i64) o2) = List.map (eI .i64) o2 := List.take_of_length_le (by simp)
      have et3 : List.take o3.length (List.map (eI .i64) o3) = List.map (eI .i64) o3 := List.take_of_length_le (by simp)
      cases hv1 : onP was v with
      | none =>
        rw [hv1] at k1 hz
        dsimp only [Option.getD_none, Option.isSome_none] at k1 hz
        cases hv2 : onP is v with
        | none =>
          rw [hv2] at k2 k3 hz
          dsimp only [Option.getD_none, Option.isSome_none] at k2 k3 hz
          simp only [Bool.false_and, Bool.and_false, Bool.false_eq_true, if_false] at hz
          have hy := hz p1 p2 p3 l1 l2 l3
          refine hκ.run 300 ?_
          simp (disch := omega) only [push_cast, simprocAttr, q3]
          refine Does.ret hκ.hP hκ.hgl k1 ⟨trivial, by first | (simp [SV.bnd, SV.bndL]; done) | (simp [SV.bnd, SV.bndL, ec_bnd]; done), by first | (simp [SV.bnd, SV.bndL]; done) | (simp [SV.bnd, SV.bndL, ec_bnd]; done) | assumption⟩ ?_
          refine hκ.run 300 ?_
          simp (disch := omega) only [push_cast, simprocAttr, q3]
          refine Does.ret hκ.hP hκ.hgl k2 ⟨trivial, by first | (simp [SV.bnd, SV.bndL]; done) | (simp [SV.bnd, SV.bndL, ec_bnd]; done), by first | (simp [SV.bnd, SV.bndL]; done) | (simp [SV.bnd, SV.bndL, ec_bnd]; done) | assumption⟩ ?_
          refine hκ.run 300 ?_
          simp (disch := omega) only [push_cast, simprocAttr, q3]
          refine Does.ret hκ.hP hκ.hgl k3 ⟨trivial, by first | (simp [SV.bnd, SV.bndL]; done) | (simp [SV.bnd, SV.bndL, ec_bnd]; done), by first | (simp [SV.bnd, SV.bndL]; done) | (simp [SV.bnd, SV.bndL, ec_bnd]; done) | assumption⟩ ?_
          refine hκ.run 300 ?_
          simp (disch := omega) only [push_cast, simprocAttr, q3]
          refine Does.ret hκ.hP hκ.hgl k4 ⟨trivial, by first | (simp [SV.bnd, SV.bndL]; done) | (simp [SV.bnd, SV.bndL, ec_bnd]; done), by first | (simp [SV.bnd, SV.bndL]; done) | (simp [SV.bnd, SV.bndL, ec_bnd]; done) | assumption⟩ ?_
          refine hκ.run 300 ?_
          simp (disch := omega) only [push_cast, simprocAttr, q3]
          refine Does.ret hκ.hP hκ.hgl k5 ⟨trivial, by first | (simp [SV.bnd, SV.bndL]; done) | (simp [SV.bnd, SV.bndL, ec_bnd]; done), by first | (simp [SV.bnd, SV.bndL]; done) | (simp [SV.bnd, SV.bndL, ec_bnd]; done) | assumption⟩ ?_
          refine hκ.run 300 ?_
          simp (disch := omega) only [push_cast, simprocAttr, q3]
          exact hy.less (by repeat' (first | exact EnvSub.nil _ | exact HeapSub.nil _ | refine EnvSub.cons rfl ?_ | refine HeapSub.cons rfl ?_ | (refine EnvSub.cons (by simp [Env.get]; done) ?_) | (refine HeapSub.cons (by simp [Heap.get]; done) ?_))) (by repeat' (first | exact EnvSub.nil _ | exact HeapSub.nil _ | refine EnvSub.cons rfl ?_ | refine HeapSub.cons rfl ?_ | (refine EnvSub.cons (by simp [Env.get]; done) ?_) | (refine HeapSub.cons (by simp [Heap.get]; done) ?_)))
        | some d =>
          rw [hv2] at k2 k3 hz
          dsimp only [Option.getD_some, Option.isSome_some] at k2 k3 hz
          simp only [Bool.false_and, Bool.and_false, Bool.true_and, Bool.not_false, Bool.false_eq_true, if_false, if_true] at hz
          refine hκ.run 300 ?_
          simp (disch := omega) only [push_cast, simprocAttr, q3, et1]
          refine Does.ret hκ.hP hκ.hgl k1 ⟨trivial, by first | (simp [SV.bnd, SV.bndL]; done) | (simp [SV.bnd, SV.bndL, ec_bnd]; done), by first | (simp [SV.bnd, SV.bndL]; done) | (simp [SV.bnd, SV.bndL, ec_bnd]; done) | assumption⟩ ?_
          refine hκ.run 300 ?_
          simp (disch := omega) only [push_cast, simprocAttr, q3, et1]
          refine Does.ret hκ.hP hκ.hgl k2 ⟨trivial, by first | (simp [SV.bnd, SV.bndL]; done) | (simp [SV.bnd, SV.bndL, ec_bnd]; done), by first | (simp [SV.bnd, SV.bndL]; done) | (simp [SV.bnd, SV.bndL, ec_bnd]; done) | assumption⟩ ?_
          refine hκ.run 300 ?_
          simp (disch := omega) only [push_cast, simprocAttr, q3, et1]
          refine Does.ret hκ.hP hκ.hgl k3 ⟨trivial, by first | (simp [SV.bnd, SV.bndL]; done) | (simp [SV.bnd, SV.bndL, ec_bnd]; done), by first | (simp [SV.bnd, SV.bndL]; done) | (simp [SV.bnd, SV.bndL, ec_bnd]; done) | assumption⟩ ?_
          refine hκ.run 300 ?_
          simp (disch := omega) only [push_cast, simprocAttr, q3, et1]
          refine Does.ret hκ.hP hκ.hgl k4 ⟨trivial, by first | (simp [SV.bnd, SV.bndL]; done) | (simp [SV.bnd, SV.bndL, ec_bnd]; done), by first | (simp [SV.bnd, SV.bndL]; done) | (simp [SV.bnd, SV.bndL, ec_bnd]; done) | assumption⟩ ?_
          refine hκ.run 300 ?_
          simp (disch := omega) only [push_cast, simprocAttr, q3, et1]
          refine Does.ret hκ.hP hκ.hgl k5 ⟨trivial, by first | (simp [SV.bnd, SV.bndL]; done) | (simp [SV.bnd, SV.bndL, ec_bnd]; done), by first | (simp [SV.bnd, SV.bndL]; done) | (simp [SV.bnd, SV.bndL, ec_bnd]; done) | assumption⟩ ?_
          refine hκ.run 300 ?_
          simp (disch := omega) only [push_cast, simprocAttr, q3, et1]
          refine ⟨⟨Nat.le_refl _, by omega, by omega⟩, fun _ => ?_⟩
          intro i
          have hy := hz (o1.length + 1 + i) p2 p3 (by simp) l2 l3
          simp only [List.length_append, List.length_cons, List.length_nil, List.length_singleton, List.length_map, List.length_set, List.length_replicate, Nat.zero_add, Nat.add_zero, Int.natCast_add, Int.natCast_one, Int.ofNat_eq_natCast, List.map_append, List.map_cons, List.map_nil, List.take_length, eI, eB] at hy ⊢
          refine Sat.via (fun i => if i = 5 then 9 else i) (hy) (by intro i j; (repeat (first | omega | split))) (by repeat' (first | exact EnvVia.nil | refine EnvVia.cons (by first | trivial | decide | (simp [SV.bnd, SV.bndL]; done)) rfl ?_)) (by repeat' (first | exact HeapVia.nil | refine HeapVia.cons (by decide) (by first | trivial | exact Blk.bnd_own0 (by assumption) | (simp [Blk.bnd, SV.bnd, SV.bndL]; done) | exact bndL_mapV _ _ _ | exact LR.bnd (by rw [l2]; simp [bndE, SV.bnd, SV.bndL]) (by rw [l6]; decide)) (by first | (rw [Blk.ren_own0 (by assumption)]; rfl) | rfl | (simp only [Blk.ren, renL_mapV]; rfl) | (rw [LR.ren (by rw [l2] <;> rfl) (by rw [l6] <;> rfl)]; rfl)) ?_)) ⟨by have := hκ.hm; (try dsimp only at this); (first | done | omega), fun i hi => by have := hκ.hm; (try dsimp only at this); (first | omega | (dsimp only; omega) | (rw [if_neg (by omega)]))⟩ ⟨by simp, rfl⟩
      | some c =>
        rw [hv1] at k1 hz
        dsimp only [Option.getD_some, Option.isSome_some] at k1 hz
        cases hv2 : onP is v with
        | none =>
          rw [hv2] at k2 k3 hz
          dsimp only [Option.getD_none, Option.isSome_none] at k2 k3 hz
          simp only [Bool.false_and, Bool.and_false, Bool.true_and, Bool.not_false, Bool.false_eq_true, if_false, if_true] at hz
          refine hκ.run 300 ?_
          simp (disch := omega) only [push_cast, simprocAttr, q3, et2]
          refine Does.ret hκ.hP hκ.hgl k1 ⟨trivial, by first | (simp [SV.bnd, SV.bndL]; done) | (simp [SV.bnd, SV.bndL, ec_bnd]; done), by first | (simp [SV.bnd, SV.bndL]; done) | (simp [SV.bnd, SV.bndL, ec_bnd]; done) | assumption⟩ ?_
          refine hκ.run 300 ?_
          simp (disch := omega) only [push_cast, simprocAttr, q3, et2]
          refine Does.ret hκ.hP hκ.hgl k2 ⟨trivial, by first | (simp [SV.bnd, SV.bndL]; done) | (simp [SV.bnd, SV.bndL, ec_bnd]; done), by first | (simp [SV.bnd, SV.bndL]; done) | (simp [SV.bnd, SV.bndL, ec_bnd]; done) | assumption⟩ ?_
          refine hκ.run 300 ?_
          simp (disch := omega) only [push_cast, simprocAttr, q3, et2]
          refine Does.ret hκ.hP hκ.hgl k3 ⟨trivial, by first | (simp [SV.bnd, SV.bndL]; done) | (simp [SV.bnd, SV.bndL, ec_bnd]; done), by first | (simp [SV.bnd, SV.bndL]; done) | (simp [SV.bnd, SV.bndL, ec_bnd]; done) | assumption⟩ ?_
          refine hκ.run 300 ?_
          simp (disch := omega) only [push_cast, simprocAttr, q3, et2]
          refine Does.ret hκ.hP hκ.hgl k4 ⟨trivial, by first | (simp [SV.bnd, SV.bndL]; done) | (simp [SV.bnd, SV.bndL, ec_bnd]; done), by first | (simp [SV.bnd, SV.bndL]; done) | (simp [SV.bnd, SV.bndL, ec_bnd]; done) | assumption⟩ ?_
          refine hκ.run 300 ?_
          simp (disch := omega) only [push_cast, simprocAttr, q3, et2]
          refine Does.ret hκ.hP hκ.hgl k5 ⟨trivial, by first | (simp [SV.bnd, SV.bndL]; done) | (simp [SV.bnd, SV.bndL, ec_bnd]; done), by first | (simp [SV.bnd, SV.bndL]; done) | (simp [SV.bnd, SV.bndL, ec_bnd]; done) | assumption⟩ ?_
          refine hκ.run 300 ?_
          simp (disch := omega) only [push_cast, simprocAttr, q3, et2]
          refine ⟨⟨Nat.le_refl _, by omega, by omega⟩, fun _ => ?_⟩
          intro i
          have hy := hz p1 (o2.length + 1 + i) p3 l1 (by simp) l3
          simp only [List.length_append, List.length_cons, List.length_nil, List.length_singleton, List.length_map, List.length_set, List.length_replicate, Nat.zero_add, Nat.add_zero, Int.natCast_add, Int.natCast_one, Int.ofNat_eq_natCast, List.map_append, List.map_cons, List.map_nil, List.take_length, eI, eB] at hy ⊢
          refine Sat.via (fun i => if i = 6 then 9 else i) (hy) (by intro i j; (repeat (first | omega | split))) (by repeat' (first | exact EnvVia.nil | refine EnvVia.cons (by first | trivial | decide | (simp [SV.bnd, SV.bndL]; done)) rfl ?_)) (by repeat' (first | exact HeapVia.nil | refine HeapVia.cons (by decide) (by first | trivial | exact Blk.bnd_own0 (by assumption) | (simp [Blk.bnd, SV.bnd, SV.bndL]; done) | exact bndL_mapV _ _ _ | exact LR.bnd (by rw [l2]; simp [bndE, SV.bnd, SV.bndL]) (by rw [l6]; decide)) (by first | (rw [Blk.ren_own0 (by assumption)]; rfl) | rfl | (simp only [Blk.ren, renL_mapV]; rfl) | (rw [LR.ren (by rw [l2] <;> rfl) (by rw [l6] <;> rfl)]; rfl)) ?_)) ⟨by have := hκ.hm; (try dsimp only at this); (first | done | omega), fun i hi => by have := hκ.hm; (try dsimp only at this); (first | omega | (dsimp only; omega) | (rw [if_neg (by omega)]))⟩ ⟨by simp, rfl⟩
        | some d =>
          rw [hv2] at k2 k3 hz
          dsimp only [Option.getD_some, Option.isSome_some] at k2 k3 hz
          by_cases hcd : c = d
          · simp only [Bool.false_and, Bool.and_false, Bool.true_and, Bool.not_true, hcd, decide_true, Bool.false_eq_true, if_false] at hz
            have hy := hz p1 p2 p3 l1 l2 l3
            refine hκ.run 300 ?_
            simp (disch := omega) only [push_cast, simprocAttr, q3, hcd]
            refine Does.ret hκ.hP hκ.hgl k1 ⟨trivial, by first | (simp [SV.bnd, SV.bndL]; done) | (simp [SV.bnd, SV.bndL, ec_bnd]; done), by first | (simp [SV.bnd, SV.bndL]; done) | (simp [SV.bnd, SV.bndL, ec_bnd]; done) | assumption⟩ ?_
            refine hκ.run 300 ?_
            simp (disch := omega) only [push_cast, simprocAttr, q3, hcd]
            refine Does.ret hκ.hP hκ.hgl k2 ⟨trivial, by first | (simp [SV.bnd, SV.bndL]; done) | (simp [SV.bnd, SV.bndL, ec_bnd]; done), by first | (simp [SV.bnd, SV.bndL]; done) | (simp [SV.bnd, SV.bndL, ec_bnd]; done) | assumption⟩ ?_
            refine hκ.run 300 ?_
            simp (disch := omega) only [push_cast, simprocAttr, q3, hcd]
            refine Does.ret hκ.hP hκ.hgl k3 ⟨trivial, by first | (simp [SV.bnd, SV.bndL]; done) | (simp [SV.bnd, SV.bndL, ec_bnd]; done), by first | (simp [SV.bnd, SV.bndL]; done) | (simp [SV.bnd, SV.bndL, ec_bnd]; done) | assumption⟩ ?_
            refine hκ.run 300 ?_
            simp (disch := omega) only [push_cast, simprocAttr, q3, hcd]
            refine Does.ret hκ.hP hκ.hgl k4 ⟨trivial, by first | (simp [SV.bnd, SV.bndL]; done) | (simp [SV.bnd, SV.bndL, ec_bnd]; done), by first | (simp [SV.bnd, SV.bndL]; done) | (simp [SV.bnd, SV.bndL, ec_bnd]; done) | assumption⟩ ?_
            refine hκ.run 300 ?_
            simp (disch := omega) only [push_cast, simprocAttr, q3, hcd]
            refine Does.ret hκ.hP hκ.hgl k5 ⟨trivial, by first | (simp [SV.bnd, SV.bndL]; done) | (simp [SV.bnd, SV.bndL, ec_bnd]; done), by first | (simp [SV.bnd, SV.bndL]; done) | (simp [SV.bnd, SV.bndL, ec_bnd]; done) | assumption⟩ ?_
            refine hκ.run 300 ?_
            simp (disch := omega) only [push_cast, simprocAttr, q3, hcd]
            exact hy.less (by repeat' (first | exact EnvSub.nil _ | exact HeapSub.nil _ | refine EnvSub.cons rfl ?_ | refine HeapSub.cons rfl ?_ | (refine EnvSub.cons (by simp [Env.get]; done) ?_) | (refine HeapSub.cons (by simp [Heap.get]; done) ?_))) (by repeat' (first | exact EnvSub.nil _ | exact HeapSub.nil _ | refine EnvSub.cons rfl ?_ | refine HeapSub.cons rfl ?_ | (refine EnvSub.cons (by simp [Env.get]; done) ?_) | (refine HeapSub.cons (by simp [Heap.get]; done) ?_)))
          · simp only [Bool.false_and, Bool.and_false, Bool.true_and, Bool.not_true, Bool.not_false, hcd, decide_false, Bool.false_eq_true, if_false, if_true] at hz
            refine hκ.run 300 ?_
            simp (disch := omega) only [push_cast, simprocAttr, q3, hcd, et3]
            refine Does.ret hκ.hP hκ.hgl k1 ⟨trivial, by first | (simp [SV.bnd, SV.bndL]; done) | (simp [SV.bnd, SV.bndL, ec_bnd]; done), by first | (simp [SV.bnd, SV.bndL]; done) | (simp [SV.bnd, SV.bndL, ec_bnd]; done) | assumption⟩ ?_
            refine hκ.run 300 ?_
            simp (disch := omega) only [push_cast, simprocAttr, q3, hcd, et3]
            refine Does.ret hκ.hP hκ.hgl k2 ⟨trivial, by first | (simp [SV.bnd, SV.bndL]; done) | (simp [SV.bnd, SV.bndL, ec_bnd]; done), by first | (simp [SV.bnd, SV.bndL]; done) | (simp [SV.bnd, SV.bndL, ec_bnd]; done) | assumption⟩ ?_
            refine hκ.run 300 ?_
            simp (disch := omega) only [push_cast, simprocAttr, q3, hcd, et3]
            refine Does.ret hκ.hP hκ.hgl k3 ⟨trivial, by first | (simp [SV.bnd, SV.bndL]; done) | (simp [SV.bnd, SV.bndL, ec_bnd]; done), by first | (simp [SV.bnd, SV.bndL]; done) | (simp [SV.bnd, SV.bndL, ec_bnd]; done) | assumption⟩ ?_
            refine hκ.run 300 ?_
            simp (disch := omega) only [push_cast, simprocAttr, q3, hcd, et3]
            refine Does.ret hκ.hP hκ.hgl k4 ⟨trivial, by first | (simp [SV.bnd, SV.bndL]; done) | (simp [SV.bnd, SV.bndL, ec_bnd]; done), by first | (simp [SV.bnd, SV.bndL]; done) | (simp [SV.bnd, SV.bndL, ec_bnd]; done) | assumption⟩ ?_
            refine hκ.run 300 ?_
            simp (disch := omega) only [push_cast, simprocAttr, q3, hcd, et3]
            refine Does.ret hκ.hP hκ.hgl k5 ⟨trivial, by first | (simp [SV.bnd, SV.bndL]; done) | (simp [SV.bnd, SV.bndL, ec_bnd]; done), by first | (simp [SV.bnd, SV.bndL]; done) | (simp [SV.bnd, SV.bndL, ec_bnd]; done) | assumption⟩ ?_
            refine hκ.run 300 ?_
            simp (disch := omega) only [push_cast, simprocAttr, q3, hcd, et3]
            refine ⟨⟨Nat.le_refl _, by omega, by omega⟩, fun _ => ?_⟩
            intro i
            have hy := hz p1 p2 (o3.length + 1 + i) l1 l2 (by simp)
            simp only [List.length_append, List.length_cons, List.length_nil, List.length_singleton, List.length_map, List.length_set, List.length_replicate, Nat.zero_add, Nat.add_zero, Int.natCast_add, Int.natCast_one, Int.ofNat_eq_natCast, List.map_append, List.map_cons, List.map_nil, List.take_length, eI, eB] at hy ⊢
            refine Sat.via (fun i => if i = 7 then 9 else i) (hy) (by intro i j; (repeat (first | omega | split))) (by repeat' (first | exact EnvVia.nil | refine EnvVia.cons (by first | trivial | decide | (simp [SV.bnd, SV.bndL]; done)) rfl ?_)) (by repeat' (first | exact HeapVia.nil | refine HeapVia.cons (by decide) (by first | trivial | exact Blk.bnd_own0 (by assumption) | (simp [Blk.bnd, SV.bnd, SV.bndL]; done) | exact bndL_mapV _ _ _ | exact LR.bnd (by rw [l2]; simp [bndE, SV.bnd, SV.bndL]) (by rw [l6]; decide)) (by first | (rw [Blk.ren_own0 (by assumption)]; rfl) | rfl | (simp only [Blk.ren, renL_mapV]; rfl) | (rw [LR.ren (by rw [l2] <;> rfl) (by rw [l6] <;> rfl)]; rfl)) ?_)) ⟨by have := hκ.hm; (try dsimp only at this); (first | done | omega), fun i hi => by have := hκ.hm; (try dsimp only at this); (first | omega | (dsimp only; omega) | (rw [if_neg (by omega)]))⟩ ⟨by simp, rfl⟩
    · obtain rfl : n = 24 := by omega
      clear ih
      have et1 : List.take (vrf (chB qC was is) 24).length (List.map (eI .i64) (vrf (chB qC was is) 24)) = List.map (eI .i64) (vrf (chB qC was is) 24) := List.take_of_length_le (by simp)
      have et2 : List.take (vrf (chB qW was is) 24).length (List.map (eI .i64) (vrf (chB qW was is) 24)) = List.map (eI .i64) (vrf (chB qW was is) 24) := List.take_of_length_le (by simp)
      have et3 : List.take (vrf (chB qM was is) 24).length (List.map (eI .i64) (vrf (chB qM was is) 24)) = List.map (eI .i64) (vrf (chB qM was is) 24) := List.take_of_length_le (by simp)
      have hc1 : (∀ p ∈ was ++ is, -3 ≤ p.1 ∧ p.1 ≤ 20) → r1 = vrf (chB qC was is) 24 ∧ r2 = vrf (chB qW was is) 24 ∧ r3 = vrf (chB qM was is) 24 := fun h => by
        rw [← hr1, ← hr2, ← hr3]
        exact ⟨chg_eq (fun _ _ => rfl) h, chg_eq (fun _ _ => rfl) h, chg_eq (fun _ _ => rfl) h⟩
      generalize vrf (chB qC was is) 24 = s1 at *
      generalize vrf (chB qW was is) 24 = s2 at *
      generalize vrf (chB qM was is) 24 = s3 at *
      rw [show ((24 : Nat) : Int) - 3 = 21 from rfl]
      refine Sat.frz [5] 10 _ rfl (by first | (simp [lendPL, lendP, lendSlP, Heap.get]; done) | (simp only [lendPL, lendP, lendSlP, Heap.get, List.mem_singleton, List.mem_cons, List.not_mem_nil, or_false, or_true, true_or, Nat.reduceEqDiff, Nat.one_ne_zero, Nat.zero_ne_one, ↓reduceIte, and_true, true_and, List.length_map, List.length_append, List.length_cons, List.length_nil, List.length_replicate]; omega)) ?_
      simp only [lendL, lendS, lendSl, Heap.get, without, List.mem_singleton, List.mem_cons, List.not_mem_nil, or_false, or_true, true_or, List.drop_zero, List.take_length, List.take_succ_cons, List.take_zero, Nat.reduceAdd, Nat.reduceEqDiff, Nat.one_ne_zero, Nat.zero_ne_one, ↓reduceIte]
      rw [et1]
      refine Sat.frz [6] 11 _ rfl (by first | (simp [lendPL, lendP, lendSlP, Heap.get]; done) | (simp only [lendPL, lendP, lendSlP, Heap.get, List.mem_singleton, List.mem_cons, List.not_mem_nil, or_false, or_true, true_or, Nat.reduceEqDiff, Nat.one_ne_zero, Nat.zero_ne_one, ↓reduceIte, and_true, true_and, List.length_map, List.length_append, List.length_cons, List.length_nil, List.length_replicate]; omega)) ?_
      simp only [lendL, lendS, lendSl, Heap.get, without, List.mem_singleton, List.mem_cons, List.not_mem_nil, or_false, or_true, true_or, List.drop_zero, List.take_length, List.take_succ_cons, List.take_zero, Nat.reduceAdd, Nat.reduceEqDiff, Nat.one_ne_zero, Nat.zero_ne_one, ↓reduceIte]
      rw [et2]
      refine Sat.frz [7] 12 _ rfl (by first | (simp [lendPL, lendP, lendSlP, Heap.get]; done) | (simp only [lendPL, lendP, lendSlP, Heap.get, List.mem_singleton, List.mem_cons, List.not_mem_nil, or_false, or_true, true_or, Nat.reduceEqDiff, Nat.one_ne_zero, Nat.zero_ne_one, ↓reduceIte, and_true, true_and, List.length_map, List.length_append, List.length_cons, List.length_nil, List.length_replicate]; omega)) ?_
      simp only [lendL, lendS, lendSl, Heap.get, without, List.mem_singleton, List.mem_cons, List.not_mem_nil, or_false, or_true, true_or, List.drop_zero, List.take_length, List.take_succ_cons, List.take_zero, Nat.reduceAdd, Nat.reduceEqDiff, Nat.one_ne_zero, Nat.zero_ne_one, ↓reduceIte]
      rw [et3]
      refine hκ.run 300 ?_
      simp (disch := omega) only [push_cast, simprocAttr]
      (repeat (refine ⟨by first | omega | (refine ⟨?_, ?_⟩ <;> omega) | trivial | (simp; done) | decide +kernel, fun _ => ?_⟩))
      intro i
      (repeat (refine ⟨by first | omega | (refine ⟨?_, ?_⟩ <;> omega) | trivial | (simp; done) | decide +kernel, fun _ => ?_⟩))
      intro j
      have ew : List.take was.length (List.map eP was) ++ List.map eP is = List.map eP (was ++ is) := by
        rw [List.map_append, List.take_of_length_le (by simp)]
      rw [ew]
      refine Sat.frz [10] 144 _ rfl (by first | (simp [lendPL, lendP, lendSlP, Heap.get]; done) | (simp only [lendPL, lendP, lendSlP, Heap.get, List.mem_singleton, List.mem_cons, List.not_mem_nil, or_false, or_true, true_or, Nat.reduceEqDiff, Nat.one_ne_zero, Nat.zero_ne_one, ↓reduceIte, and_true, true_and, List.length_map, List.length_append, List.length_cons, List.length_nil, List.length_replicate]; omega)) ?_
      simp only [lendL, lendS, lendSl, Heap.get, without, List.mem_singleton, List.mem_cons, List.not_mem_nil, or_false, or_true, true_or, List.drop_zero, List.take_length, List.take_succ_cons, List.take_zero, Nat.reduceAdd, Nat.reduceEqDiff, Nat.one_ne_zero, Nat.zero_ne_one, ↓reduceIte]
      have hlen : (was ++ is).length = was.length + is.length := List.length_append
      rw [show List.take (was.length + is.length) (List.map eP (was ++ is)) = List.map eP (was ++ is) from List.take_of_length_le (by simp)]
      clear ew et1 et2 et3 cch
      refine Sat.less (Sat.loop (γ := Nat) (fun k => ([(146, I k), (145, I ((was.length : Int) + is.length)), (144, Ps (was ++ is)), (12, Is s3), (11, Is s2), (10, Is s1), (7, Is r1), (8, Is r2), (9, Is r3), (1, Ps was), (2, Ps is), (3, .ptr 0 0 0 0)], [(0, .own [Ens l, Ws w, S free] 27)], 11)) (fun k => (was ++ is).length - k) (fun k => k ≤ (was ++ is).length ∧ ∀ p ∈ (was ++ is).take k, -3 ≤ p.1 ∧ p.1 ≤ 20) ?rest 0 ⟨Nat.zero_le _, by simp⟩) (by repeat' (first | exact EnvSub.nil _ | exact HeapSub.nil _ | refine EnvSub.cons rfl ?_ | refine HeapSub.cons rfl ?_ | (refine EnvSub.cons (by simp [Env.get]; done) ?_) | (refine HeapSub.cons (by simp [Heap.get]; done) ?_))) (by repeat' (first | exact EnvSub.nil _ | exact HeapSub.nil _ | refine EnvSub.cons rfl ?_ | refine HeapSub.cons rfl ?_ | (refine EnvSub.cons (by simp [Env.get]; done) ?_) | (refine HeapSub.cons (by simp [Heap.get]; done) ?_)))
      case rest =>
        rintro k ⟨hk2, hin⟩ ih
        dsimp only at hk2 hin ih ⊢
        by_cases hkl : k < (was ++ is).length
        · have gk : (List.map eP (was ++ is)).getD k [] = eP ((was ++ is).getD k default) := getD_map _ _ _ hkl
          have hs : (was ++ is).take (k + 1) = (was ++ is).take k ++ [(was ++ is).getD k default] := by
            rw [List.take_succ_eq_append_getElem hkl, List.getD, List.getElem?_eq_getElem hkl]; rfl
          have hz := fun h => ih (k + 1) ⟨by omega, h⟩ (by omega)
          rw [hs] at hz
          have hl3 : (List.map eP (was ++ is)).length = was.length + is.length := by rw [List.length_map, hlen]
          clear ih hs hc1
          generalize (was ++ is).getD k default = p at *
          generalize (was ++ is).take k = T at *
          generalize was ++ is = L at *
          have q3 : ((k : Int) < (was.length : Int) + is.length) = True := by first | (simp only [eq_iff_iff, iff_true]; first | assumption | omega) | (simp; omega)
          have q4 : (0 ≤ (k : Int)) = True := by first | (simp only [eq_iff_iff, iff_true]; first | assumption | omega) | (simp; omega)
          rw [eP] at gk
          by_cases h3 : p.1 < -3
          · have q5 : (p.1 < -3) = True := by first | (simp only [eq_iff_iff, iff_true]; first | assumption | omega) | (simp; omega)
            refine hκ.run 300 ?_
            simp (disch := omega) only [push_cast, simprocAttr, q3, q4, gk, q5]
            (repeat (refine ⟨by first | omega | (refine ⟨?_, ?_⟩ <;> omega) | trivial | (simp; done) | decide +kernel, fun _ => ?_⟩))
            refine hκ.ret _ _ _ _ _ _ trivial rfl ?_
            rfl
          · have q5 : (p.1 < -3) = False := by first | (simp only [eq_iff_iff, iff_false]; first | assumption | omega) | (simp; omega)
            by_cases h4 : 20 < p.1
            · have q6 : (20 < p.1) = True := by first | (simp only [eq_iff_iff, iff_true]; first | assumption | omega) | (simp; omega)
              refine hκ.run 300 ?_
              simp (disch := omega) only [push_cast, simprocAttr, q3, q4, gk, q5, q6]
              (repeat (refine ⟨by first | omega | (refine ⟨?_, ?_⟩ <;> omega) | trivial | (simp; done) | decide +kernel, fun _ => ?_⟩))
              refine hκ.ret _ _ _ _ _ _ trivial rfl ?_
              rfl
            · have q6 : (20 < p.1) = False := by first | (simp only [eq_iff_iff, iff_false]; first | assumption | omega) | (simp; omega)
              have hy := hz (fun r hr => by
                rcases List.mem_append.1 hr with hr | hr
                · exact hin r hr
                · rw [List.mem_singleton.1 hr]; omega)
              refine hκ.run 300 ?_
              simp (disch := omega) only [push_cast, simprocAttr, q3, q4, gk, q5, q6]
              (repeat (refine ⟨by first | omega | (refine ⟨?_, ?_⟩ <;> omega) | trivial | (simp; done) | decide +kernel, fun _ => ?_⟩))
              refine Sat.via (fun i => i) (hy) (by intro i j; (repeat (first | omega | split))) (by repeat' (first | exact EnvVia.nil | refine EnvVia.cons (by first | trivial | decide | (simp [SV.bnd, SV.bndL]; done)) rfl ?_)) (by repeat' (first | exact HeapVia.nil | refine HeapVia.cons (by decide) (by first | trivial | exact Blk.bnd_own0 (by assumption) | (simp [Blk.bnd, SV.bnd, SV.bndL]; done) | exact bndL_mapV _ _ _ | exact LR.bnd (by rw [l2]; simp [bndE, SV.bnd, SV.bndL]) (by rw [l6]; decide)) (by first | (rw [Blk.ren_own0 (by assumption)]; rfl) | rfl | (simp only [Blk.ren, renL_mapV]; rfl) | (rw [LR.ren (by rw [l2] <;> rfl) (by rw [l6] <;> rfl)]; rfl)) ?_)) ⟨by have := hκ.hm; (try dsimp only at this); (first | done | omega), fun i hi => by have := hκ.hm; (try dsimp only at this); (first | omega | (dsimp only; omega) | (rw [if_neg (by omega)]))⟩ ⟨by simp, rfl⟩
        · obtain rfl : k = (was ++ is).length := by omega
          rw [List.take_length] at hin
          obtain ⟨rfl, rfl, rfl⟩ := hc1 hin
          clear ih hin hc1 hr1 hr2 hr3 hkl hk2
          have q3 : ((was.length : Int) + is.length < (was.length : Int) + is.length) = False := by first | (simp only [eq_iff_iff, iff_false]; first | assumption | omega) | (simp; omega)
          obtain ⟨b1, b2, b3⟩ := over_bd hov
          have hl' : ∀ x ∈ l, inE x := fun x hx => ⟨(hl x hx).1, by have := b3 x hx; omega⟩
          have m1 := sameInts_ok r1 r1 (by omega)
          have m2 := sameInts_ok r2 r2 (by omega)
          have m3 := sameInts_ok r3 r3 (by omega)
          rw [decide_eq_true rfl] at m1 m2 m3
          have w1 := Whole_ok l is hl (by omega) (by omega)
          have w2 := rWhole_ok l is hl (by omega) (by omega)
          generalize wholeB l is = wb at *
          have cy := why_ok l w free hl' hw (by omega) (by omega)
          refine hκ.runD 300 ?_
          simp (disch := omega) only [push_cast, simprocAttr, q3]
          refine hκ.draw (.q 0 (.q 1 (.l 2 [] (.q 3 (.q 4 (.q 5 (.q 6 (.l 7 [] (.q 8 (.q 9 (.q 10 (.q 11 (.q 12 (.l 13 [] (.q 14 (.q 15 (.q 16 (.q 17 (.q 18 (.q 19 (.q 21 (.q 22 (.q 23 (.l 20 [22] (.l 24 [18] (.q 25 (.q 26 (.fin)))))))))))))))))))))))))))) [0, 1, 3, 4, 5, 6, 8, 9, 10, 11, 12, 14, 15, 16, 17, 18, 19, 21, 22, 23, 25, 26] (by kernel_rfl) (by kernel_rfl) rfl ?_
          simp (disch := omega) only [push_cast, simprocAttr, q3]
          refine DCall.of (Does.ret hκ.hP hκ.hgl m1 ⟨trivial, by first | (simp [SV.bnd, SV.bndL]; done) | (simp [SV.bnd, SV.bndL, ec_bnd]; done), by first | (simp [SV.bnd, SV.bndL]; done) | (simp [SV.bnd, SV.bndL, ec_bnd]; done) | assumption⟩ ?_)
          simp (disch := omega) only [push_cast, simprocAttr, q3]
          refine DCall.of (Does.ret hκ.hP hκ.hgl m2 ⟨trivial, by first | (simp [SV.bnd, SV.bndL]; done) | (simp [SV.bnd, SV.bndL, ec_bnd]; done), by first | (simp [SV.bnd, SV.bndL]; done) | (simp [SV.bnd, SV.bndL, ec_bnd]; done) | assumption⟩ ?_)
          simp (disch := omega) only [push_cast, simprocAttr, q3]
          refine DCall.of (Does.ret hκ.hP hκ.hgl m3 ⟨trivial, by first | (simp [SV.bnd, SV.bndL]; done) | (simp [SV.bnd, SV.bndL, ec_bnd]; done), by first | (simp [SV.bnd, SV.bndL]; done) | (simp [SV.bnd, SV.bndL, ec_bnd]; done) | assumption⟩ ?_)
          simp (disch := omega) only [push_cast, simprocAttr, q3]
          refine DCall.of (Does.ret hκ.hP hκ.hgl w1 ⟨trivial, by first | (simp [SV.bnd, SV.bndL]; done) | (simp [SV.bnd, SV.bndL, ec_bnd]; done), by first | (simp [SV.bnd, SV.bndL]; done) | (simp [SV.bnd, SV.bndL, ec_bnd]; done) | assumption⟩ ?_)
          simp (disch := omega) only [push_cast, simprocAttr, q3]
          refine DCall.of (Does.ret hκ.hP hκ.hgl w2 ⟨trivial, by first | (simp [SV.bnd, SV.bndL]; done) | (simp [SV.bnd, SV.bndL, ec_bnd]; done), by first | (simp [SV.bnd, SV.bndL]; done) | (simp [SV.bnd, SV.bndL, ec_bnd]; done) | assumption⟩ ?_)
          simp (disch := omega) only [push_cast, simprocAttr, q3]
          refine hκ.run 300 ?_
          simp (disch := omega) only [push_cast, simprocAttr, q3]
          by_cases he : askP l w free = 0
          rotate_left
          · have ci := Idle_no l w free is hl' hw (by omega) (by omega) hf he
            generalize askP l w free = e at *
            refine Does.ret hκ.hP hκ.hgl ci ⟨trivial, by first | (simp [SV.bnd, SV.bndL]; done) | (simp [SV.bnd, SV.bndL, ec_bnd]; done), by first | (simp [SV.bnd, SV.bndL]; done) | (simp [SV.bnd, SV.bndL, ec_bnd]; done) | assumption⟩ ?_
            refine hκ.run 300 ?_
            simp (disch := omega) only [push_cast, simprocAttr, q3]
            refine Does.ret hκ.hP hκ.hgl cy ⟨trivial, by first | (simp [SV.bnd, SV.bndL]; done) | (simp [SV.bnd, SV.bndL, ec_bnd]; done), by first | (simp [SV.bnd, SV.bndL]; done) | (simp [SV.bnd, SV.bndL, ec_bnd]; done) | assumption⟩ ?_
            refine hκ.run 300 ?_
            simp (disch := omega) only [push_cast, simprocAttr, he]
            refine hκ.ret _ _ _ _ _ _ trivial rfl ?_
            rfl
          · have ci := Idle_ok l w free is hl' hw (by omega) (by omega) hf (by omega) he
            rw [he] at cy
            obtain ⟨hp0, hf8⟩ := askP_zero he
            obtain ⟨-, -, -, hoW⟩ := pickE_zero hp0
            have hok : ∀ x ∈ l, okW w x := fun x hx => okW_of hp0 hx
            have cr := (rIdle_ok l w free is hl' hok (okWs_mask w [] hoW) (by omega) (by omega) (by omega) hf8).toRd
            rw [idle_eq w free is l hok] at ci
            have hlr := rngf_len (idles w free is l) 8
            generalize (rng 8).filter (idles w free is l) = z at *
            have m4 := sameInts_ok z z (by omega)
            rw [decide_eq_true rfl] at m4
            refine Does.ret hκ.hP hκ.hgl ci ⟨trivial, by first | (simp [SV.bnd, SV.bndL]; done) | (simp [SV.bnd, SV.bndL, ec_bnd]; done), by first | (simp [SV.bnd, SV.bndL]; done) | (simp [SV.bnd, SV.bndL, ec_bnd]; done) | assumption⟩ ?_
            refine hκ.run 300 ?_
            simp (disch := omega) only [push_cast, simprocAttr, q3]
            refine Does.ret hκ.hP hκ.hgl cy ⟨trivial, by first | (simp [SV.bnd, SV.bndL]; done) | (simp [SV.bnd, SV.bndL, ec_bnd]; done), by first | (simp [SV.bnd, SV.bndL]; done) | (simp [SV.bnd, SV.bndL, ec_bnd]; done) | assumption⟩ ?_
            refine hκ.run 300 ?_
            simp (disch := omega) only [push_cast, simprocAttr, q3]
            refine Does.ret hκ.hP hκ.hgl cr ⟨trivial, by first | (simp [SV.bnd, SV.bndL]; done) | (simp [SV.bnd, SV.bndL, ec_bnd]; done), by first | (simp [SV.bnd, SV.bndL]; done) | (simp [SV.bnd, SV.bndL, ec_bnd]; done) | assumption⟩ ?_
            refine hκ.run 300 ?_
            simp (disch := omega) only [push_cast, simprocAttr, q3]
            refine Does.ret hκ.hP hκ.hgl m4 ⟨trivial, by first | (simp [SV.bnd, SV.bndL]; done) | (simp [SV.bnd, SV.bndL, ec_bnd]; done), by first | (simp [SV.bnd, SV.bndL]; done) | (simp [SV.bnd, SV.bndL, ec_bnd]; done) | assumption⟩ ?_
            refine hκ.run 300 ?_
            simp (disch := omega) only [push_cast, simprocAttr, q3]
            refine hκ.ret _ _ _ _ _ _ trivial rfl ?_
            rfl
end Go.Proofs.YtnjgmjcokcfmkaaDoor

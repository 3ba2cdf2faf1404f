/- The kinds of calls: a map of functions. No condition. -/
import Derived.Test.YtmieikflcolbaaaEa
namespace Go.Proofs.Ytmieikflcolbaaa
open Go Go.Sy
set_option maxRecDepth 100000
set_option linter.unusedSimpArgs false
set_option linter.unusedVariables false
def putF (k : Int) (g : Nat) (f : List Int → Option SV) : List Int → Option SV := fun q => if q = [k] then some (.v (.func (.func g) #[] #[])) else f q
def callsF0 : List Int → Option SV := putF 19 67 (putF 18 66 (putF 16 65 (putF 13 64 (putF 10 63 (putF 3 62 (putF 2 61 (putF 1 60 (fun _ => none))))))))
def callsF1 : List Int → Option SV := putF 20 68 (putF 12 68 (putF 11 68 (putF 9 68 (putF 8 68 (putF 7 68 (putF 6 68 (putF 5 68 (putF 4 68 (callsF0)))))))))
def callsF : List Int → Option SV := putF 17 69 (putF 15 69 (putF 14 69 (callsF1)))
theorem calls_ok : Con Try.prog gl0 (fnv 50) [] 0 [] (fun s H n => s = .mp 0 ∧ H = [(0, .map false [.i64] callsF)] ∧ n = 1) := by
  refine Con.of Try.ok50 (nt := 27) (res := [.tmp 0]) Try.mixed Try.func50 rfl rfl rfl rfl fun κ xc hκ => hκ.run 300 ?_
  simp (disch := omega) only [push_cast, simprocAttr]
  refine Sat.less (e := [(10, I 0), (9, I 9), (8, .sl 1 1 0 9 9), (1, .mp 0)]) (h := [(1, .row 1 9 3 [[I 4], [I 5], [I 6], [I 7], [I 8], [I 9], [I 11], [I 12], [I 20]]), (0, .map false [.i64] callsF0)]) ?_ (by repeat' (first | exact EnvSub.nil _ | exact HeapSub.nil _ | refine EnvSub.cons rfl ?_ | refine HeapSub.cons rfl ?_ | (refine EnvSub.cons (by simp [Env.get]; done) ?_) | (refine HeapSub.cons (by simp [Heap.get]; done) ?_))) (by repeat' (first | exact EnvSub.nil _ | exact HeapSub.nil _ | refine EnvSub.cons rfl ?_ | refine HeapSub.cons rfl ?_ | (refine EnvSub.cons (by simp [Env.get]; done) ?_) | (refine HeapSub.cons (by simp [Heap.get]; done) ?_)))
  generalize hc : callsF0 = f0
  refine Sat.enter ?_
  refine hκ.run 300 ?_
  simp (disch := omega) only [push_cast, simprocAttr]
  refine Sat.again ?_
  refine hκ.run 300 ?_
  simp (disch := omega) only [push_cast, simprocAttr]
  refine Sat.again ?_
  refine hκ.run 300 ?_
  simp (disch := omega) only [push_cast, simprocAttr]
  refine Sat.again ?_
  refine hκ.run 300 ?_
  simp (disch := omega) only [push_cast, simprocAttr]
  refine Sat.again ?_
  refine hκ.run 300 ?_
  simp (disch := omega) only [push_cast, simprocAttr]
  refine Sat.again ?_
  refine hκ.run 300 ?_
  simp (disch := omega) only [push_cast, simprocAttr]
  refine Sat.again ?_
  refine hκ.run 300 ?_
  simp (disch := omega) only [push_cast, simprocAttr]
  refine Sat.again ?_
  refine hκ.run 300 ?_
  simp (disch := omega) only [push_cast, simprocAttr]
  refine Sat.again ?_
  refine hκ.run 300 ?_
  simp (disch := omega) only [push_cast, simprocAttr]
  refine Sat.again ?_
  refine hκ.run 300 ?_
  simp (disch := omega) only [push_cast, simprocAttr]
  subst hc
  refine Sat.less (e := [(19, I 0), (18, I 3), (17, .sl 2 1 0 3 3), (1, .mp 0)]) (h := [(2, .row 1 3 3 [[I 14], [I 15], [I 17]]), (0, .map false [.i64] callsF1)]) ?_ (by repeat' (first | exact EnvSub.nil _ | exact HeapSub.nil _ | refine EnvSub.cons rfl ?_ | refine HeapSub.cons rfl ?_ | (refine EnvSub.cons (by simp [Env.get]; done) ?_) | (refine HeapSub.cons (by simp [Heap.get]; done) ?_))) (by repeat' (first | exact EnvSub.nil _ | exact HeapSub.nil _ | refine EnvSub.cons rfl ?_ | refine HeapSub.cons rfl ?_ | (refine EnvSub.cons (by simp [Env.get]; done) ?_) | (refine HeapSub.cons (by simp [Heap.get]; done) ?_)))
  generalize hc : callsF1 = f1
  refine Sat.enter ?_
  refine hκ.run 300 ?_
  simp (disch := omega) only [push_cast, simprocAttr]
  refine Sat.again ?_
  refine hκ.run 300 ?_
  simp (disch := omega) only [push_cast, simprocAttr]
  refine Sat.again ?_
  refine hκ.run 300 ?_
  simp (disch := omega) only [push_cast, simprocAttr]
  refine Sat.again ?_
  refine hκ.run 300 ?_
  simp (disch := omega) only [push_cast, simprocAttr]
  subst hc
  refine hκ.ret _ _ _ _ _ _ trivial rfl ?_
  exact Post.via 1 id (.mp 0) [(0, .map false [.i64] callsF)] ⟨rfl, rfl, rfl⟩ rfl (Nat.lt_succ_self 0) (fun _ _ _ _ h => h) (.cons (by decide) (by simp [Blk.bnd]) rfl .nil) ⟨Nat.zero_le _, fun a h => absurd h (Nat.not_lt_zero a)⟩
theorem Does.mpN {P0 : Program} {x : Ctx} {f : SV} {args : List SV} {nx : Nat} {H : Heap} {K : SV → Heap → Nat → Prop} {P : Program} {gl : Gl} (hP : P0 = P) (hgl : x.gl = gl) {B : Blk} (h : Con P gl f args 0 [] (fun s H n => s = .mp 0 ∧ H = [(0, B)] ∧ n = 1)) (hc : f.closed ∧ SV.bndL 0 args) (hB : B.still)
    (next : K (.mp nx) ((nx, B) :: H) (nx + 1)) : Does P0 x f args nx H K := by
  refine Does.fn hP hgl 0 id [] f args [] h (SV.ren_closed hc.1 _).symm (SV.renL_closed hc.2 _).symm hc.1 hc.2 (fun i hi => absurd hi (Nat.not_lt_zero i)) (fun i j hi => absurd hi (Nat.not_lt_zero i)) (fun i b hb => by simp [Heap.get] at hb) ?_
  rintro s' H' n' ⟨rfl, rfl, rfl⟩
  refine ⟨.cons (by simp) .nil, fun _ => ?_⟩
  rw [without_nil]
  simp only [renH, hB _]
  exact next
def callL (s : Int) : Option (List Nat) :=
  if s = 1 then some [100, 119, 99, 113] else if s = 2 then some [100] else if s = 3 then some [100, 109] else if s = 10 then some [118, 110, 97] else if s = 13 then some [112, 111] else if s = 16 then some [112, 102] else if s = 18 then some [112, 118] else if s = 19 then some [118, 112, 101, 97]
  else if s = 4 ∨ s = 5 ∨ s = 6 ∨ s = 7 ∨ s = 8 ∨ s = 9 ∨ s = 11 ∨ s = 12 ∨ s = 20 then some [118] else if s = 14 ∨ s = 15 ∨ s = 17 then some [112] else none
def liveL (s : Int) : Option (List Nat) :=
  if s = 1 then some [68, 87] else if s = 2 then some [68, 67] else if s = 3 then some [68, 80] else if s = 4 then some [86, 77] else if s = 5 then some [78] else if s = 6 then some [71] else if s = 7 then some [86] else if s = 8 then some [80, 83] else if s = 9 then some [80, 73] else if s = 10 then some [85, 80] else none
theorem callL_none {s : Int} (h : s < 1 ∨ 20 < s) : callL s = none := by
  rw [callL]
  simp only [show ¬s = 1 by omega, show ¬s = 2 by omega, show ¬s = 3 by omega, show ¬s = 10 by omega, show ¬s = 13 by omega, show ¬s = 16 by omega, show ¬s = 18 by omega, show ¬s = 19 by omega, show ¬s = 4 by omega, show ¬s = 5 by omega, show ¬s = 6 by omega, show ¬s = 7 by omega, show ¬s = 8 by omega, show ¬s = 9 by omega, show ¬s = 11 by omega, show ¬s = 12 by omega, show ¬s = 20 by omega, show ¬s = 14 by omega, show ¬s = 15 by omega, show ¬s = 17 by omega, if_false, or_self]
theorem liveL_none {s : Int} (h : s < 1 ∨ 10 < s) : liveL s = none := by
  rw [liveL]
  simp only [show ¬s = 1 by omega, show ¬s = 2 by omega, show ¬s = 3 by omega, show ¬s = 10 by omega, show ¬s = 4 by omega, show ¬s = 5 by omega, show ¬s = 6 by omega, show ¬s = 7 by omega, show ¬s = 8 by omega, show ¬s = 9 by omega, if_false]
theorem callsF_none {s : Int} (h : s < 1 ∨ 20 < s) : callsF [s] = none := by
  simp only [callsF, callsF1, callsF0, putF, List.cons.injEq, and_true, show ¬s = 1 by omega, show ¬s = 2 by omega, show ¬s = 3 by omega, show ¬s = 10 by omega, show ¬s = 13 by omega, show ¬s = 16 by omega, show ¬s = 18 by omega, show ¬s = 19 by omega, show ¬s = 4 by omega, show ¬s = 5 by omega, show ¬s = 6 by omega, show ¬s = 7 by omega, show ¬s = 8 by omega, show ¬s = 9 by omega, show ¬s = 11 by omega, show ¬s = 12 by omega, show ¬s = 20 by omega, show ¬s = 14 by omega, show ¬s = 15 by omega, show ¬s = 17 by omega, if_false]
end Go.Proofs.Ytmieikflcolbaaa

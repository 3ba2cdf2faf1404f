/- pick.Changed. No condition. -/
import Derived.Test.YtnjgmjcokcfmkaaDoorRe
import Derived.Test.YtnjgmjcokcfmkaaDoorRb
namespace Go.Proofs.YtnjgmjcokcfmkaaDoor
open Go Go.Sy
set_option maxRecDepth 100000
set_option linter.unusedSimpArgs false
set_option linter.unusedVariables false
set_option maxHeartbeats 8000000

def qC (_ : Int) (f : Bool) (_ : Int) (t : Bool) : Bool := t && !f
def qW (_ : Int) (f : Bool) (_ : Int) (t : Bool) : Bool := f && !t
def qM (a : Int) (f : Bool) (b : Int) (t : Bool) : Bool := (f && t) && !decide (a = b)
theorem qC_ok (a : Int) (f : Bool) (b : Int) (t : Bool) : Con Tryd.prog gl0 (fnv 64) [I a, Bo f, I b, Bo t] 0 [] (Ret (Bo (qC a f b t))) := by
  cases f <;> cases t
  · refine Con.of Tryd.ok64 (nt := 14) (res := [.tmp 8]) Tryd.mixed Tryd.func64 rfl rfl rfl rfl fun κ xc hκ => hκ.run 300 ?_
    simp (disch := omega) only [push_cast, simprocAttr]
    refine hκ.ret _ _ _ _ _ _ trivial rfl ?_
    exact .ret trivial
  · refine Con.of Tryd.ok64 (nt := 14) (res := [.tmp 8]) Tryd.mixed Tryd.func64 rfl rfl rfl rfl fun κ xc hκ => hκ.run 300 ?_
    simp (disch := omega) only [push_cast, simprocAttr]
    refine hκ.ret _ _ _ _ _ _ trivial rfl ?_
    exact .ret trivial
  · refine Con.of Tryd.ok64 (nt := 14) (res := [.tmp 8]) Tryd.mixed Tryd.func64 rfl rfl rfl rfl fun κ xc hκ => hκ.run 300 ?_
    simp (disch := omega) only [push_cast, simprocAttr]
    refine hκ.ret _ _ _ _ _ _ trivial rfl ?_
    exact .ret trivial
  · refine Con.of Tryd.ok64 (nt := 14) (res := [.tmp 8]) Tryd.mixed Tryd.func64 rfl rfl rfl rfl fun κ xc hκ => hκ.run 300 ?_
    simp (disch := omega) only [push_cast, simprocAttr]
    refine hκ.ret _ _ _ _ _ _ trivial rfl ?_
    exact .ret trivial
theorem qW_ok (a : Int) (f : Bool) (b : Int) (t : Bool) : Con Tryd.prog gl0 (fnv 65) [I a, Bo f, I b, Bo t] 0 [] (Ret (Bo (qW a f b t))) := by
  cases f <;> cases t
  · refine Con.of Tryd.ok65 (nt := 14) (res := [.tmp 8]) Tryd.mixed Tryd.func65 rfl rfl rfl rfl fun κ xc hκ => hκ.run 300 ?_
    simp (disch := omega) only [push_cast, simprocAttr]
    refine hκ.ret _ _ _ _ _ _ trivial rfl ?_
    exact .ret trivial
  · refine Con.of Tryd.ok65 (nt := 14) (res := [.tmp 8]) Tryd.mixed Tryd.func65 rfl rfl rfl rfl fun κ xc hκ => hκ.run 300 ?_
    simp (disch := omega) only [push_cast, simprocAttr]
    refine hκ.ret _ _ _ _ _ _ trivial rfl ?_
    exact .ret trivial
  · refine Con.of Tryd.ok65 (nt := 14) (res := [.tmp 8]) Tryd.mixed Tryd.func65 rfl rfl rfl rfl fun κ xc hκ => hκ.run 300 ?_
    simp (disch := omega) only [push_cast, simprocAttr]
    refine hκ.ret _ _ _ _ _ _ trivial rfl ?_
    exact .ret trivial
  · refine Con.of Tryd.ok65 (nt := 14) (res := [.tmp 8]) Tryd.mixed Tryd.func65 rfl rfl rfl rfl fun κ xc hκ => hκ.run 300 ?_
    simp (disch := omega) only [push_cast, simprocAttr]
    refine hκ.ret _ _ _ _ _ _ trivial rfl ?_
    exact .ret trivial
theorem qM_ok (a : Int) (f : Bool) (b : Int) (t : Bool) : Con Tryd.prog gl0 (fnv 66) [I a, Bo f, I b, Bo t] 0 [] (Ret (Bo (qM a f b t))) := by
  cases f <;> cases t
  · refine Con.of Tryd.ok66 (nt := 18) (res := [.tmp 8]) Tryd.mixed Tryd.func66 rfl rfl rfl rfl fun κ xc hκ => hκ.run 300 ?_
    simp (disch := omega) only [push_cast, simprocAttr]
    refine hκ.ret _ _ _ _ _ _ trivial rfl ?_
    exact .ret trivial
  · refine Con.of Tryd.ok66 (nt := 18) (res := [.tmp 8]) Tryd.mixed Tryd.func66 rfl rfl rfl rfl fun κ xc hκ => hκ.run 300 ?_
    simp (disch := omega) only [push_cast, simprocAttr]
    refine hκ.ret _ _ _ _ _ _ trivial rfl ?_
    exact .ret trivial
  · refine Con.of Tryd.ok66 (nt := 18) (res := [.tmp 8]) Tryd.mixed Tryd.func66 rfl rfl rfl rfl fun κ xc hκ => hκ.run 300 ?_
    simp (disch := omega) only [push_cast, simprocAttr]
    refine hκ.ret _ _ _ _ _ _ trivial rfl ?_
    exact .ret trivial
  · refine Con.of Tryd.ok66 (nt := 18) (res := [.tmp 8]) Tryd.mixed Tryd.func66 rfl rfl rfl rfl fun κ xc hκ => hκ.run 300 ?_
    simp (disch := omega) only [push_cast, simprocAttr]
    refine hκ.ret _ _ _ _ _ _ trivial rfl ?_
    exact .ret trivial
abbrev H4 (was is : List (Int × Int)) (es : Array MapEntry) (clock : Nat) : Heap := [(0, .own [Ps was] 30), (1, .own [Ps is] 30), (2, .obj (.map es clock)), (3, .own [.mp 2] 91)]
theorem Changed_ok (was is : List (Int × Int)) (hn : was.length < 2 ^ 38) (hn2 : is.length < 2 ^ 38) : Con Tryd.prog gl0 (fnv 35) [Ps was, Ps is] 0 [] (Ret (.tup [Is (chgL qC was is), Is (chgL qW was is), Is (chgL qM was is)])) := by
  have hlen : (was ++ is).length < 2 ^ 39 := by rw [List.length_append]; omega
  have cc := concat_ok was is (by omega)
  refine Con.of Tryd.ok35 (nt := 38) (res := [.tmp 4, .tmp 5, .tmp 6]) Tryd.mixed Tryd.func35 rfl rfl rfl rfl fun κ xc hκ => hκ.run 300 ?_
  simp (disch := omega) only [push_cast, simprocAttr]
  refine Does.frz [4] ⟨trivial, rfl⟩ (by first | (simp [lendPL, lendP, lendSlP, Heap.get]; done) | (simp only [lendPL, lendP, lendSlP, Heap.get, List.mem_singleton, List.mem_cons, List.not_mem_nil, or_false, or_true, true_or, Nat.reduceEqDiff, Nat.one_ne_zero, Nat.zero_ne_one, ↓reduceIte, and_true, true_and, List.length_map, List.length_append, List.length_cons, List.length_nil, List.length_replicate]; omega)) ?_
  simp only [lendL, lendS, lendSl, Heap.get, without, List.mem_singleton, List.mem_cons, List.not_mem_nil, or_false, or_true, true_or, List.drop_zero, List.take_length, List.take_succ_cons, List.take_zero, Nat.reduceAdd, Nat.reduceEqDiff, Nat.one_ne_zero, Nat.zero_ne_one, ↓reduceIte]
  refine Does.ret hκ.hP hκ.hgl cc ⟨trivial, by first | (simp [SV.bnd, SV.bndL]; done) | (simp [SV.bnd, SV.bndL, ec_bnd]; done), by first | (simp [SV.bnd, SV.bndL]; done) | (simp [SV.bnd, SV.bndL, ec_bnd]; done) | assumption⟩ ?_
  refine hκ.run 300 ?_
  simp (disch := omega) only [push_cast, simprocAttr]
  refine Sat.less (Sat.loop (γ := Nat) (fun k => ([(20, I k), (19, I (was ++ is).length), (18, Ps (was ++ is)), (7, .ptr 3 0 0 0), (2, .ptr 0 0 0 0), (3, .ptr 1 0 0 0)],
      [(0, .own [Ps was] 30), (1, .own [Ps is] 30), (2, .map false [.i64] (mapF (((was ++ is).take k).map Prod.fst))), (3, .own [.mp 2] 91)], 5)) (fun k => (was ++ is).length - k) (fun k => k ≤ (was ++ is).length) ?round 0 (Nat.zero_le _)) (by repeat' (first | exact EnvSub.nil _ | exact HeapSub.nil _ | refine EnvSub.cons rfl ?_ | refine HeapSub.cons rfl ?_ | (refine EnvSub.cons (by simp [Env.get]; done) ?_) | (refine HeapSub.cons (by simp [Heap.get]; done) ?_))) (by repeat' (first | exact EnvSub.nil _ | exact HeapSub.nil _ | refine EnvSub.cons rfl ?_ | refine HeapSub.cons rfl ?_ | (refine EnvSub.cons (by simp [Env.get]; done) ?_) | (refine HeapSub.cons (by simp [Heap.get]; done) ?_)))
  case round =>
    intro k hk ih
    dsimp only at hk ih ⊢
    by_cases hkl : k < (was ++ is).length
    · have gk : (List.map eP (was ++ is)).getD k [] = eP ((was ++ is).getD k default) := getD_map _ _ _ hkl
      have hs : (was ++ is).take (k + 1) = (was ++ is).take k ++ [(was ++ is).getD k default] := by
        rw [List.take_succ_eq_append_getElem hkl, List.getD, List.getElem?_eq_getElem hkl]; rfl
      have hz := ih (k + 1) (by omega) (by omega)
      rw [hs, List.map_append, List.map_cons, List.map_nil, mapF_snoc] at hz
      clear ih hs
      generalize (was ++ is).getD k default = p at *
      generalize mapF (((was ++ is).take k).map Prod.fst) = f at *
      generalize was ++ is = L at *
      have q1 : ((k : Int) < L.length) = True := by first | (simp only [eq_iff_iff, iff_true]; first | assumption | omega) | (simp; omega)
      rw [eP] at gk
      refine hκ.run 300 ?_
      simp (disch := omega) only [push_cast, simprocAttr, q1, gk]
      (repeat (refine ⟨by first | omega | (refine ⟨?_, ?_⟩ <;> omega) | trivial | (simp; done) | decide +kernel, fun _ => ?_⟩))
      refine Sat.via (fun i => i) (hz) (by intro i j; (repeat (first | omega | split))) (by repeat' (first | exact EnvVia.nil | refine EnvVia.cons (by first | trivial | decide | (simp [SV.bnd, SV.bndL]; done)) rfl ?_)) (by repeat' (first | exact HeapVia.nil | refine HeapVia.cons (by decide) (by first | trivial | exact Blk.bnd_own0 (by assumption) | (simp [Blk.bnd, SV.bnd, SV.bndL]; done) | exact bndL_mapV _ _ _ | exact LR.bnd (by rw [l2]; simp [bndE, SV.bnd, SV.bndL]) (by rw [l6]; decide)) (by first | (rw [Blk.ren_own0 (by assumption)]; rfl) | rfl | (simp only [Blk.ren, renL_mapV]; rfl) | (rw [LR.ren (by rw [l2] <;> rfl) (by rw [l6] <;> rfl)]; rfl)) ?_)) ⟨by have := hκ.hm; (try dsimp only at this); (first | done | omega), fun i hi => by have := hκ.hm; (try dsimp only at this); (first | omega | (dsimp only; omega) | (rw [if_neg (by omega)]))⟩ ⟨by simp, rfl⟩
    · obtain rfl : k = (was ++ is).length := by omega
      rw [List.take_length]
      refine Sat.mapObj 2 rfl ?_
      intro es clock hM
      have hkp := mapF_kp hM
      have t1 := those_ok 64 qC qC_ok was is (by omega) (by omega) es clock hkp hM.bd hM.bn
      have t2 := those_ok 65 qW qW_ok was is (by omega) (by omega) es clock hkp hM.bd hM.bn
      have t3 := those_ok 66 qM qM_ok was is (by omega) (by omega) es clock hkp hM.bd hM.bn
      generalize chgL qC was is = r1 at *
      generalize chgL qW was is = r2 at *
      generalize chgL qM was is = r3 at *
      clear hkp hM ih cc
      simp only [Heap.set, Nat.reduceEqDiff, ↓reduceIte]
      generalize was ++ is = L at *
      have q1 : ((L.length : Int) < L.length) = False := by first | (simp only [eq_iff_iff, iff_false]; first | assumption | omega) | (simp; omega)
      refine hκ.run 300 ?_
      simp (disch := omega) only [push_cast, simprocAttr, q1]
      refine Does.fn hκ.hP hκ.hgl 4 (fun i => i) [0, 1, 2, 3] (.fn (.func 62) [] [.ptr 3 0 0 0, .ptr 0 0 0 0, .ptr 1 0 0 0]) [fnv 64] (H4 was is es clock) t1 rfl rfl (by simp [SV.bnd, SV.bndL]) ⟨trivial, trivial⟩ (fun i hi => (by show i < 5; omega)) (fun i j _ _ h => h) (by repeat' (first | exact HeapIn.nil | refine HeapIn.cons (by decide) (by simp [Blk.bnd, SV.bnd, SV.bndL]) (by simp) rfl ?_)) ?_
      rintro s H n' ⟨rfl, rfl, rfl⟩
      refine ⟨(by repeat' (first | exact Once.nil | refine Once.cons (by simp) ?_)), fun _ => ?_⟩
      simp only [renH, Blk.ren, SV.renL, SV.ren, tau, without, List.mem_singleton, List.mem_cons, List.not_mem_nil, or_false, or_true, true_or, Nat.reduceEqDiff, Nat.reduceLT, Nat.zero_lt_one, Nat.one_ne_zero, Nat.zero_ne_one, Nat.zero_lt_succ, ↓reduceIte, List.cons_append, List.nil_append, List.append_nil]
      refine hκ.run 300 ?_
      simp (disch := omega) only [push_cast, simprocAttr, q1]
      refine Does.fn hκ.hP hκ.hgl 4 (fun i => i) [0, 1, 2, 3] (.fn (.func 62) [] [.ptr 3 0 0 0, .ptr 0 0 0 0, .ptr 1 0 0 0]) [fnv 65] (H4 was is es clock) t2 rfl rfl (by simp [SV.bnd, SV.bndL]) ⟨trivial, trivial⟩ (fun i hi => (by show i < 5; omega)) (fun i j _ _ h => h) (by repeat' (first | exact HeapIn.nil | refine HeapIn.cons (by decide) (by simp [Blk.bnd, SV.bnd, SV.bndL]) (by simp) rfl ?_)) ?_
      rintro s H n' ⟨rfl, rfl, rfl⟩
      refine ⟨(by repeat' (first | exact Once.nil | refine Once.cons (by simp) ?_)), fun _ => ?_⟩
      simp only [renH, Blk.ren, SV.renL, SV.ren, tau, without, List.mem_singleton, List.mem_cons, List.not_mem_nil, or_false, or_true, true_or, Nat.reduceEqDiff, Nat.reduceLT, Nat.zero_lt_one, Nat.one_ne_zero, Nat.zero_ne_one, Nat.zero_lt_succ, ↓reduceIte, List.cons_append, List.nil_append, List.append_nil]
      refine hκ.run 300 ?_
      simp (disch := omega) only [push_cast, simprocAttr, q1]
      refine Does.fn hκ.hP hκ.hgl 4 (fun i => i) [0, 1, 2, 3] (.fn (.func 62) [] [.ptr 3 0 0 0, .ptr 0 0 0 0, .ptr 1 0 0 0]) [fnv 66] (H4 was is es clock) t3 rfl rfl (by simp [SV.bnd, SV.bndL]) ⟨trivial, trivial⟩ (fun i hi => (by show i < 5; omega)) (fun i j _ _ h => h) (by repeat' (first | exact HeapIn.nil | refine HeapIn.cons (by decide) (by simp [Blk.bnd, SV.bnd, SV.bndL]) (by simp) rfl ?_)) ?_
      rintro s H n' ⟨rfl, rfl, rfl⟩
      refine ⟨(by repeat' (first | exact Once.nil | refine Once.cons (by simp) ?_)), fun _ => ?_⟩
      simp only [renH, Blk.ren, SV.renL, SV.ren, tau, without, List.mem_singleton, List.mem_cons, List.not_mem_nil, or_false, or_true, true_or, Nat.reduceEqDiff, Nat.reduceLT, Nat.zero_lt_one, Nat.one_ne_zero, Nat.zero_ne_one, Nat.zero_lt_succ, ↓reduceIte, List.cons_append, List.nil_append, List.append_nil]
      refine hκ.run 300 ?_
      simp (disch := omega) only [push_cast, simprocAttr, q1]
      refine hκ.ret _ _ _ _ _ _ trivial rfl ?_
      exact .ret (by simp [SV.bnd, SV.bndL])
end Go.Proofs.YtnjgmjcokcfmkaaDoor
namespace Go.Proofs.YtnjgmjcokcfmkaaDoor
open Go Go.Sy
set_option maxRecDepth 100000
set_option linter.unusedSimpArgs false
set_option linter.unusedVariables false
set_option maxHeartbeats 4000000

/-- The first n numbers from -3 on. -/
def vr (n : Nat) : List Int := (List.range n).map fun i : Nat => (i : Int) - 3
theorem vr_succ (n : Nat) : vr (n + 1) = vr n ++ [(n : Int) - 3] := by simp [vr, List.range_succ]
theorem vr_mem {n : Nat} {v : Int} : v ∈ vr n ↔ -3 ≤ v ∧ v < (n : Int) - 3 := by
  simp only [vr, List.mem_map, List.mem_range]
  constructor
  · rintro ⟨a, h, rfl⟩; omega
  · rintro ⟨h1, h2⟩; exact ⟨(v + 3).toNat, by omega, by omega⟩
theorem vr_rise (n : Nat) : (vr n).Pairwise (· < ·) := by
  rw [vr, List.pairwise_map]
  exact List.pairwise_lt_range.imp fun h => by omega
def vrf (q : Int → Bool) (n : Nat) : List Int := (vr n).filter q
theorem vrf_succ (q : Int → Bool) (n : Nat) : vrf q (n + 1) = if q ((n : Int) - 3) = true then vrf q n ++ [(n : Int) - 3] else vrf q n := by
  rw [vrf, vr_succ, List.filter_append, List.filter_cons, List.filter_nil, ← vrf]
  split
  · rfl
  · rw [List.append_nil]
theorem vrf_len (q : Int → Bool) (n : Nat) : (vrf q n).length ≤ n := by
  refine Nat.le_trans (List.length_filter_le _ _) ?_
  simp [vr]
theorem onP_mem {l : List (Int × Int)} {v : Int} (h : (onP l v).isSome = true) : v ∈ l.map Prod.fst := by
  rw [onP] at h
  cases hf : l.find? fun p => decide (p.1 = v) with
  | none => rw [hf] at h; cases h
  | some p =>
    have := List.find?_some hf
    exact List.mem_map.2 ⟨p, List.mem_of_find?_eq_some hf, of_decide_eq_true this⟩
theorem chg_eq {q : Int → Bool → Int → Bool → Bool} {was is : List (Int × Int)} (hq : ∀ a b, q a false b false = false) (h : ∀ p ∈ was ++ is, -3 ≤ p.1 ∧ p.1 ≤ 20) : chgL q was is = vrf (chB q was is) 24 := by
  have hs : sortI (vrf (chB q was is) 24) = vrf (chB q was is) 24 := by
    refine List.mergeSort_of_pairwise ?_
    refine List.Pairwise.filter _ ((vr_rise 24).imp fun h => ?_)
    simp only [decide_eq_true_eq]; omega
  refine Eq.trans ?_ hs
  rw [chgL]
  refine sortI_perm ((List.perm_ext_iff_of_nodup ((uq_nodup _).filter _) (List.Pairwise.filter _ ((vr_rise 24).imp fun h => by omega))).2 fun v => ?_)
  rw [List.mem_filter, List.mem_filter, mem_uq, vr_mem]
  constructor
  · rintro ⟨h1, h2⟩
    obtain ⟨p, hp, rfl⟩ := List.mem_map.1 h1
    have := h p hp
    exact ⟨by omega, h2⟩
  · rintro ⟨-, h2⟩
    refine ⟨?_, h2⟩
    rw [List.map_append, List.mem_append]
    by_cases h3 : (onP was v).isSome = true
    · exact Or.inl (onP_mem h3)
    · by_cases h4 : (onP is v).isSome = true
      · exact Or.inr (onP_mem h4)
      · rw [chB, show (onP was v).isSome = false by simpa using h3, show (onP is v).isSome = false by simpa using h4, hq] at h2
        cases h2
end Go.Proofs.YtnjgmjcokcfmkaaDoor

/- Where a vCPU is, who is on a pCPU; the law's own words. No condition. -/
import Derived.Test.YtnjgmjcokcfmkaaDoorQf
namespace Go.Proofs.YtnjgmjcokcfmkaaDoor
open Go Go.Sy
set_option maxRecDepth 100000
set_option linter.unusedSimpArgs false
set_option linter.unusedVariables false
set_option maxHeartbeats 4000000

def onP (l : List (Int × Int)) (v : Int) : Option Int := (l.find? fun p => decide (p.1 = v)).map Prod.snd
def atP2 (l : List (Int × Int)) (c : Int) : Option Int := (l.find? fun p => decide (p.2 = c)).map Prod.fst
theorem drop_findP {q : Int × Int → Bool} {l : List (Int × Int)} {k : Nat} (h : k < l.length) : (l.drop k).find? q = if q (l.getD k default) = true then some (l.getD k default) else (l.drop (k + 1)).find? q := by
  rw [List.drop_eq_getElem_cons h, List.find?_cons]
  simp only [List.getD, List.getElem?_eq_getElem h, Option.getD_some]
  cases q l[k] <;> rfl
theorem On_ok (l : List (Int × Int)) (v : Int) (hn : l.length < 2 ^ 46) : Con Tryd.prog gl0 (fnv 24) [Ps l, I v] 0 [] (Ret (.tup [I ((onP l v).getD 0), Bo (onP l v).isSome])) := by
  have hdef : onP l v = (l.find? fun p => decide (p.1 = v)).map fun p => p.2 := rfl
  rw [hdef]
  clear hdef
  refine Con.of Tryd.ok24 (nt := 17) (res := [.tmp 4, .tmp 5]) Tryd.mixed Tryd.func24 rfl rfl rfl rfl fun κ xc hκ => hκ.run 300 ?_
  simp (disch := omega) only [push_cast, simprocAttr, eP]
  refine Does.inl hκ.hP hκ.hgl Tryd.ok53 (nt := 17) (res := [.cell 4 68, .tmp 5]) Tryd.mixed Tryd.func53 rfl rfl rfl rfl fun κ_h1 x_h1 h1 => h1.run 300 ?_
  simp (disch := omega) only [push_cast, simprocAttr, eP]
  refine Does.inl h1.hP h1.hgl Tryd.ok78 (nt := 19) (res := [.tmp 4]) Tryd.mixed Tryd.func78 rfl rfl rfl rfl fun κ_h2 x_h2 h2 => h2.run 300 ?_
  simp (disch := omega) only [push_cast, simprocAttr, eP]
  refine Sat.less (Sat.loop (γ := Nat) (fun k => ([(8, I k), (7, I l.length), (0, Ps l), (1, .fn (.func 54) [] [.ptr 0 0 0 0])], [(1, .own [I 0, I 0] 68), (0, .own [I v] 3)], 2)) (fun k => l.length - k) (fun k => k ≤ l.length ∧ (l.drop k).find? (fun p => decide (p.1 = v)) = l.find? fun p => decide (p.1 = v)) ?round 0 ⟨Nat.zero_le _, rfl⟩) (by repeat' (first | exact EnvSub.nil _ | exact HeapSub.nil _ | refine EnvSub.cons rfl ?_ | refine HeapSub.cons rfl ?_ | (refine EnvSub.cons (by simp [Env.get]; done) ?_) | (refine HeapSub.cons (by simp [Heap.get]; done) ?_))) (by repeat' (first | exact EnvSub.nil _ | exact HeapSub.nil _ | refine EnvSub.cons rfl ?_ | refine HeapSub.cons rfl ?_ | (refine EnvSub.cons (by simp [Env.get]; done) ?_) | (refine HeapSub.cons (by simp [Heap.get]; done) ?_)))
  case round =>
    rintro k ⟨hk, hj⟩ ih
    dsimp only at hk hj ih ⊢
    by_cases hkl : k < l.length
    · have q1 : ((k : Int) < l.length) = True := by first | (simp only [eq_iff_iff, iff_true]; first | assumption | omega) | (simp; omega)
      have gk : (List.map eP l).getD k [] = eP (l.getD k default) := getD_map _ _ _ hkl
      rw [drop_findP hkl] at hj
      have hz := fun h => ih (k + 1) ⟨by omega, h⟩ (by omega)
      clear ih
      generalize l.getD k default = p at *
      rw [eP] at gk
      refine h2.run 300 ?_
      simp (disch := omega) only [push_cast, simprocAttr, q1, gk]
      (repeat (refine ⟨by first | omega | (refine ⟨?_, ?_⟩ <;> omega) | trivial | (simp; done) | decide +kernel, fun _ => ?_⟩))
      refine Does.inlc h2.hP h2.hgl Tryd.ok54 (nt := 8) (res := [.tmp 3]) Tryd.mixed Tryd.func54 rfl rfl rfl rfl fun κ_h3 x_h3 h3 => h3.run 300 ?_
      simp (disch := omega) only [push_cast, simprocAttr, q1, gk]
      by_cases e1 : p.1 = v
      · rw [if_pos (decide_eq_true e1)] at hj
        rw [← hj] at hκ
        have et : (p.1 = v) = True := by first | (simp only [eq_iff_iff, iff_true]; first | assumption | omega) | (simp; omega)
        have eq : ((0 : Int) ≤ k) = True := by first | (simp only [eq_iff_iff, iff_true]; first | assumption | omega) | (simp; omega)
        have e0 : ((k : Int) < 0) = False := by first | (simp only [eq_iff_iff, iff_false]; first | assumption | omega) | (simp; omega)
        refine h3.ret _ _ _ _ _ _ trivial rfl ?_
        refine h2.run 300 ?_
        simp (disch := omega) only [push_cast, simprocAttr, q1, gk, et, eq, e0]
        refine h2.ret _ _ _ _ _ _ trivial rfl ?_
        refine h1.run 300 ?_
        simp (disch := omega) only [push_cast, simprocAttr, q1, gk, et, eq, e0]
        (repeat (refine ⟨by first | omega | (refine ⟨?_, ?_⟩ <;> omega) | trivial | (simp; done) | decide +kernel, fun _ => ?_⟩))
        refine h1.ret _ _ _ _ _ _ trivial rfl ?_
        refine hκ.run 300 ?_
        simp (disch := omega) only [push_cast, simprocAttr, q1, gk, et, eq, e0]
        refine hκ.ret _ _ _ _ _ _ trivial rfl ?_
        exact .ret (by simp [SV.bnd, SV.bndL])
      · rw [if_neg (by simpa using e1)] at hj
        have hy := hz hj
        have et : (p.1 = v) = False := by first | (simp only [eq_iff_iff, iff_false]; first | assumption | omega) | (simp; omega)
        refine h3.ret _ _ _ _ _ _ trivial rfl ?_
        refine h2.run 300 ?_
        simp (disch := omega) only [push_cast, simprocAttr, q1, gk, et]
        refine Sat.via (fun i => i) (hy) (by intro i j; (repeat (first | omega | split))) (by repeat' (first | exact EnvVia.nil | refine EnvVia.cons (by first | trivial | decide | (simp [SV.bnd, SV.bndL]; done)) rfl ?_)) (by repeat' (first | exact HeapVia.nil | refine HeapVia.cons (by decide) (by first | trivial | exact Blk.bnd_own0 (by assumption) | (simp [Blk.bnd, SV.bnd, SV.bndL]; done) | exact bndL_mapV _ _ _ | exact LR.bnd (by rw [l2]; simp [bndE, SV.bnd, SV.bndL]) (by rw [l6]; decide)) (by first | (rw [Blk.ren_own0 (by assumption)]; rfl) | rfl | (simp only [Blk.ren, renL_mapV]; rfl) | (rw [LR.ren (by rw [l2] <;> rfl) (by rw [l6] <;> rfl)]; rfl)) ?_)) ⟨by have := h2.hm; (try dsimp only at this); (first | done | omega), fun i hi => by have := h2.hm; (try dsimp only at this); (first | omega | (dsimp only; omega) | (rw [if_neg (by omega)]))⟩ ⟨by simp, rfl⟩
    · obtain rfl : k = l.length := by omega
      rw [List.drop_length, List.find?_nil] at hj
      rw [← hj] at hκ
      have q1 : ((l.length : Int) < l.length) = False := by first | (simp only [eq_iff_iff, iff_false]; first | assumption | omega) | (simp; omega)
      refine h2.run 300 ?_
      simp (disch := omega) only [push_cast, simprocAttr, q1]
      refine h2.ret _ _ _ _ _ _ trivial rfl ?_
      refine h1.run 300 ?_
      simp (disch := omega) only [push_cast, simprocAttr, q1]
      refine h1.ret _ _ _ _ _ _ trivial rfl ?_
      refine hκ.run 300 ?_
      simp (disch := omega) only [push_cast, simprocAttr, q1]
      refine hκ.ret _ _ _ _ _ _ trivial rfl ?_
      exact .ret (by simp [SV.bnd, SV.bndL])
theorem At_ok (l : List (Int × Int)) (v : Int) (hn : l.length < 2 ^ 46) : Con Tryd.prog gl0 (fnv 38) [Ps l, I v] 0 [] (Ret (.tup [I ((atP2 l v).getD 0), Bo (atP2 l v).isSome])) := by
  have hdef : atP2 l v = (l.find? fun p => decide (p.2 = v)).map fun p => p.1 := rfl
  rw [hdef]
  clear hdef
  refine Con.of Tryd.ok38 (nt := 17) (res := [.tmp 4, .tmp 5]) Tryd.mixed Tryd.func38 rfl rfl rfl rfl fun κ xc hκ => hκ.run 300 ?_
  simp (disch := omega) only [push_cast, simprocAttr, eP]
  refine Does.inl hκ.hP hκ.hgl Tryd.ok53 (nt := 17) (res := [.cell 4 68, .tmp 5]) Tryd.mixed Tryd.func53 rfl rfl rfl rfl fun κ_h1 x_h1 h1 => h1.run 300 ?_
  simp (disch := omega) only [push_cast, simprocAttr, eP]
  refine Does.inl h1.hP h1.hgl Tryd.ok78 (nt := 19) (res := [.tmp 4]) Tryd.mixed Tryd.func78 rfl rfl rfl rfl fun κ_h2 x_h2 h2 => h2.run 300 ?_
  simp (disch := omega) only [push_cast, simprocAttr, eP]
  refine Sat.less (Sat.loop (γ := Nat) (fun k => ([(8, I k), (7, I l.length), (0, Ps l), (1, .fn (.func 67) [] [.ptr 0 0 0 0])], [(1, .own [I 0, I 0] 68), (0, .own [I v] 3)], 2)) (fun k => l.length - k) (fun k => k ≤ l.length ∧ (l.drop k).find? (fun p => decide (p.2 = v)) = l.find? fun p => decide (p.2 = v)) ?round 0 ⟨Nat.zero_le _, rfl⟩) (by repeat' (first | exact EnvSub.nil _ | exact HeapSub.nil _ | refine EnvSub.cons rfl ?_ | refine HeapSub.cons rfl ?_ | (refine EnvSub.cons (by simp [Env.get]; done) ?_) | (refine HeapSub.cons (by simp [Heap.get]; done) ?_))) (by repeat' (first | exact EnvSub.nil _ | exact HeapSub.nil _ | refine EnvSub.cons rfl ?_ | refine HeapSub.cons rfl ?_ | (refine EnvSub.cons (by simp [Env.get]; done) ?_) | (refine HeapSub.cons (by simp [Heap.get]; done) ?_)))
  case round =>
    rintro k ⟨hk, hj⟩ ih
    dsimp only at hk hj ih ⊢
    by_cases hkl : k < l.length
    · have q1 : ((k : Int) < l.length) = True := by first | (simp only [eq_iff_iff, iff_true]; first | assumption | omega) | (simp; omega)
      have gk : (List.map eP l).getD k [] = eP (l.getD k default) := getD_map _ _ _ hkl
      rw [drop_findP hkl] at hj
      have hz := fun h => ih (k + 1) ⟨by omega, h⟩ (by omega)
      clear ih
      generalize l.getD k default = p at *
      rw [eP] at gk
      refine h2.run 300 ?_
      simp (disch := omega) only [push_cast, simprocAttr, q1, gk]
      (repeat (refine ⟨by first | omega | (refine ⟨?_, ?_⟩ <;> omega) | trivial | (simp; done) | decide +kernel, fun _ => ?_⟩))
      refine Does.inlc h2.hP h2.hgl Tryd.ok67 (nt := 8) (res := [.tmp 3]) Tryd.mixed Tryd.func67 rfl rfl rfl rfl fun κ_h3 x_h3 h3 => h3.run 300 ?_
      simp (disch := omega) only [push_cast, simprocAttr, q1, gk]
      by_cases e1 : p.2 = v
      · rw [if_pos (decide_eq_true e1)] at hj
        rw [← hj] at hκ
        have et : (p.2 = v) = True := by first | (simp only [eq_iff_iff, iff_true]; first | assumption | omega) | (simp; omega)
        have eq : ((0 : Int) ≤ k) = True := by first | (simp only [eq_iff_iff, iff_true]; first | assumption | omega) | (simp; omega)
        have e0 : ((k : Int) < 0) = False := by first | (simp only [eq_iff_iff, iff_false]; first | assumption | omega) | (simp; omega)
        refine h3.ret _ _ _ _ _ _ trivial rfl ?_
        refine h2.run 300 ?_
        simp (disch := omega) only [push_cast, simprocAttr, q1, gk, et, eq, e0]
        refine h2.ret _ _ _ _ _ _ trivial rfl ?_
        refine h1.run 300 ?_
        simp (disch := omega) only [push_cast, simprocAttr, q1, gk, et, eq, e0]
        (repeat (refine ⟨by first | omega | (refine ⟨?_, ?_⟩ <;> omega) | trivial | (simp; done) | decide +kernel, fun _ => ?_⟩))
        refine h1.ret _ _ _ _ _ _ trivial rfl ?_
        refine hκ.run 300 ?_
        simp (disch := omega) only [push_cast, simprocAttr, q1, gk, et, eq, e0]
        refine hκ.ret _ _ _ _ _ _ trivial rfl ?_
        exact .ret (by simp [SV.bnd, SV.bndL])
      · rw [if_neg (by simpa using e1)] at hj
        have hy := hz hj
        have et : (p.2 = v) = False := by first | (simp only [eq_iff_iff, iff_false]; first | assumption | omega) | (simp; omega)
        refine h3.ret _ _ _ _ _ _ trivial rfl ?_
        refine h2.run 300 ?_
        simp (disch := omega) only [push_cast, simprocAttr, q1, gk, et]
        refine Sat.via (fun i => i) (hy) (by intro i j; (repeat (first | omega | split))) (by repeat' (first | exact EnvVia.nil | refine EnvVia.cons (by first | trivial | decide | (simp [SV.bnd, SV.bndL]; done)) rfl ?_)) (by repeat' (first | exact HeapVia.nil | refine HeapVia.cons (by decide) (by first | trivial | exact Blk.bnd_own0 (by assumption) | (simp [Blk.bnd, SV.bnd, SV.bndL]; done) | exact bndL_mapV _ _ _ | exact LR.bnd (by rw [l2]; simp [bndE, SV.bnd, SV.bndL]) (by rw [l6]; decide)) (by first | (rw [Blk.ren_own0 (by assumption)]; rfl) | rfl | (simp only [Blk.ren, renL_mapV]; rfl) | (rw [LR.ren (by rw [l2] <;> rfl) (by rw [l6] <;> rfl)]; rfl)) ?_)) ⟨by have := h2.hm; (try dsimp only at this); (first | done | omega), fun i hi => by have := h2.hm; (try dsimp only at this); (first | omega | (dsimp only; omega) | (rw [if_neg (by omega)]))⟩ ⟨by simp, rfl⟩
    · obtain rfl : k = l.length := by omega
      rw [List.drop_length, List.find?_nil] at hj
      rw [← hj] at hκ
      have q1 : ((l.length : Int) < l.length) = False := by first | (simp only [eq_iff_iff, iff_false]; first | assumption | omega) | (simp; omega)
      refine h2.run 300 ?_
      simp (disch := omega) only [push_cast, simprocAttr, q1]
      refine h2.ret _ _ _ _ _ _ trivial rfl ?_
      refine h1.run 300 ?_
      simp (disch := omega) only [push_cast, simprocAttr, q1]
      refine h1.ret _ _ _ _ _ _ trivial rfl ?_
      refine hκ.run 300 ?_
      simp (disch := omega) only [push_cast, simprocAttr, q1]
      refine hκ.ret _ _ _ _ _ _ trivial rfl ?_
      exact .ret (by simp [SV.bnd, SV.bndL])
abbrev Ak (l : List En) (w : List Wi) (free : Nat) : SV := .agg [Ens l, Ws w, S free]
def overB (l : List En) (w : List Wi) : Bool := decide (40 < l.length) || (decide (60 < w.length) || l.any fun x => decide (40 < x.ms.length))
theorem over_ok (l : List En) (w : List Wi) (free : Nat) (hn : l.length < 2 ^ 46) (hn2 : w.length < 2 ^ 46) : Con Tryd.prog gl0 (fnv 11) [Ak l w free] 0 [] (Ret (Bo (overB l w))) := by
  have ho : overB l w = (decide (40 < l.length) || (decide (60 < w.length) || l.any fun x => decide (40 < x.ms.length))) := rfl
  rw [ho]
  clear ho
  by_cases h1 : 40 < l.length
  · rw [decide_eq_true h1, Bool.true_or]
    have q1 : (40 < (l.length : Int)) = True := by first | (simp only [eq_iff_iff, iff_true]; first | assumption | omega) | (simp; omega)
    refine Con.of Tryd.ok11 (nt := 27) (res := [.tmp 2]) Tryd.mixed Tryd.func11 rfl rfl rfl rfl fun κ xc hκ => hκ.run 300 ?_
    simp (disch := omega) only [push_cast, simprocAttr, q1]
    refine hκ.ret _ _ _ _ _ _ trivial rfl ?_
    exact .ret trivial
  rw [decide_eq_false h1, Bool.false_or]
  have q1 : (40 < (l.length : Int)) = False := by first | (simp only [eq_iff_iff, iff_false]; first | assumption | omega) | (simp; omega)
  by_cases h2 : 60 < w.length
  · rw [decide_eq_true h2, Bool.true_or]
    have q2 : (60 < (w.length : Int)) = True := by first | (simp only [eq_iff_iff, iff_true]; first | assumption | omega) | (simp; omega)
    refine Con.of Tryd.ok11 (nt := 27) (res := [.tmp 2]) Tryd.mixed Tryd.func11 rfl rfl rfl rfl fun κ xc hκ => hκ.run 300 ?_
    simp (disch := omega) only [push_cast, simprocAttr, q1, q2]
    refine hκ.ret _ _ _ _ _ _ trivial rfl ?_
    exact .ret trivial
  rw [decide_eq_false h2, Bool.false_or]
  have q2 : (60 < (w.length : Int)) = False := by first | (simp only [eq_iff_iff, iff_false]; first | assumption | omega) | (simp; omega)
  refine Con.of Tryd.ok11 (nt := 27) (res := [.tmp 2]) Tryd.mixed Tryd.func11 rfl rfl rfl rfl fun κ xc hκ => hκ.run 300 ?_
  simp (disch := omega) only [push_cast, simprocAttr, q1, q2]
  refine Sat.less (Sat.loop (γ := Nat) (fun k => ([(18, I k), (17, I l.length), (16, Ens l)], [], 1)) (fun k => l.length - k) (fun k => k ≤ l.length ∧ ((l.drop k).any fun x => decide (40 < x.ms.length)) = l.any fun x => decide (40 < x.ms.length)) ?round 0 ⟨Nat.zero_le _, rfl⟩) (by repeat' (first | exact EnvSub.nil _ | exact HeapSub.nil _ | refine EnvSub.cons rfl ?_ | refine HeapSub.cons rfl ?_ | (refine EnvSub.cons (by simp [Env.get]; done) ?_) | (refine HeapSub.cons (by simp [Heap.get]; done) ?_))) (by repeat' (first | exact EnvSub.nil _ | exact HeapSub.nil _ | refine EnvSub.cons rfl ?_ | refine HeapSub.cons rfl ?_ | (refine EnvSub.cons (by simp [Env.get]; done) ?_) | (refine HeapSub.cons (by simp [Heap.get]; done) ?_)))
  case round =>
    rintro k ⟨hk, ho⟩ ih
    dsimp only at hk ho ih ⊢
    by_cases hkl : k < l.length
    · have q3 : ((k : Int) < l.length) = True := by first | (simp only [eq_iff_iff, iff_true]; first | assumption | omega) | (simp; omega)
      have gk : (List.map eEn l).getD k [] = eEn (l.getD k default) := getD_map _ _ _ hkl
      have hd : l.drop k = l.getD k default :: l.drop (k + 1) := by
        rw [List.drop_eq_getElem_cons hkl, List.getD, List.getElem?_eq_getElem hkl]; rfl
      rw [hd, List.any_cons] at ho
      have hz := fun h => ih (k + 1) ⟨by omega, h⟩ (by omega)
      clear ih
      generalize l.getD k default = x at *
      have te : takeN (eEn x) 6 = some (eEn x) := rfl
      have cm : cut (eEn x) 0 1 = some [Is x.ms] := rfl
      have oz : over [.v (.slice none 0 0), .v (.int .u64 0), .v (.int .u64 0), .v (.int .u64 0), .v (.int .u64 0), Bo false] (eEn x) = some (eEn x) := rfl
      have on : ones (eEn x) := ⟨trivial, rfl, rfl, rfl, rfl, rfl, trivial⟩
      have le : (eEn x).length = 6 := rfl
      have tk : List.take 6 (eEn x) = eEn x := rfl
      by_cases h4 : 40 < x.ms.length
      · rw [decide_eq_true h4, Bool.true_or] at ho
        rw [← ho] at hκ
        have q4 : (40 < (x.ms.length : Int)) = True := by first | (simp only [eq_iff_iff, iff_true]; first | assumption | omega) | (simp; omega)
        refine hκ.run 300 ?_
        simp (disch := omega) only [push_cast, simprocAttr, q3, gk, te, cm, oz, on, le, tk, q4]
        (repeat (refine ⟨by first | omega | (refine ⟨?_, ?_⟩ <;> omega) | trivial | (simp; done) | decide +kernel, fun _ => ?_⟩))
        refine hκ.ret _ _ _ _ _ _ trivial rfl ?_
        exact .ret trivial
      · rw [decide_eq_false h4, Bool.false_or] at ho
        have hy := hz ho
        have q4 : (40 < (x.ms.length : Int)) = False := by first | (simp only [eq_iff_iff, iff_false]; first | assumption | omega) | (simp; omega)
        refine hκ.run 300 ?_
        simp (disch := omega) only [push_cast, simprocAttr, q3, gk, te, cm, oz, on, le, tk, q4]
        (repeat (refine ⟨by first | omega | (refine ⟨?_, ?_⟩ <;> omega) | trivial | (simp; done) | decide +kernel, fun _ => ?_⟩))
        refine Sat.via (fun i => i) (hy) (by intro i j; (repeat (first | omega | split))) (by repeat' (first | exact EnvVia.nil | refine EnvVia.cons (by first | trivial | decide | (simp [SV.bnd, SV.bndL]; done)) rfl ?_)) (by repeat' (first | exact HeapVia.nil | refine HeapVia.cons (by decide) (by first | trivial | exact Blk.bnd_own0 (by assumption) | (simp [Blk.bnd, SV.bnd, SV.bndL]; done) | exact bndL_mapV _ _ _ | exact LR.bnd (by rw [l2]; simp [bndE, SV.bnd, SV.bndL]) (by rw [l6]; decide)) (by first | (rw [Blk.ren_own0 (by assumption)]; rfl) | rfl | (simp only [Blk.ren, renL_mapV]; rfl) | (rw [LR.ren (by rw [l2] <;> rfl) (by rw [l6] <;> rfl)]; rfl)) ?_)) ⟨by have := hκ.hm; (try dsimp only at this); (first | done | omega), fun i hi => by have := hκ.hm; (try dsimp only at this); (first | omega | (dsimp only; omega) | (rw [if_neg (by omega)]))⟩ ⟨by simp, rfl⟩
    · obtain rfl : k = l.length := by omega
      rw [List.drop_length, List.any_nil] at ho
      rw [← ho] at hκ
      have q3 : ((l.length : Int) < l.length) = False := by first | (simp only [eq_iff_iff, iff_false]; first | assumption | omega) | (simp; omega)
      refine hκ.run 300 ?_
      simp (disch := omega) only [push_cast, simprocAttr, q3]
      refine hκ.ret _ _ _ _ _ _ trivial rfl ?_
      exact .ret trivial
def wiD : Wi := ⟨0, 0, 0, 0⟩
def wshO (w : List Wi) (v : Int) : Wi := (w.find? fun x => decide (x.v = v)).getD wiD
theorem drop_findW {q : Wi → Bool} {l : List Wi} {k : Nat} (h : k < l.length) : (l.drop k).find? q = if q (l.getD k default) = true then some (l.getD k default) else (l.drop (k + 1)).find? q := by
  rw [List.drop_eq_getElem_cons h, List.find?_cons]
  simp only [List.getD, List.getElem?_eq_getElem h, Option.getD_some]
  cases q l[k] <;> rfl
theorem wish_ok (l : List En) (w : List Wi) (free : Nat) (v : Int) (hn : w.length < 2 ^ 46) : Con Tryd.prog gl0 (fnv 29) [Ak l w free, I v] 0 [] (Ret (.agg (eW (wshO w v)))) := by
  have hO : wshO w v = (w.find? fun x => decide (x.v = v)).getD wiD := rfl
  rw [hO]
  clear hO
  refine Con.of Tryd.ok29 (nt := 21) (res := [.cell 4 45]) Tryd.mixed Tryd.func29 rfl rfl rfl rfl fun κ xc hκ => hκ.run 300 ?_
  simp (disch := omega) only [push_cast, simprocAttr, eW]
  refine Sat.less (Sat.loop (γ := Nat) (fun k => ([(10, I k), (9, I w.length), (8, Ws w), (4, .ptr 1 0 0 0), (1, I v)], [(1, .own [I 0, I 0, S 0, S 0] 45)], 2)) (fun k => w.length - k) (fun k => k ≤ w.length ∧ ((w.drop k).find? fun x => decide (x.v = v)) = w.find? fun x => decide (x.v = v)) ?round 0 ⟨Nat.zero_le _, rfl⟩) (by repeat' (first | exact EnvSub.nil _ | exact HeapSub.nil _ | refine EnvSub.cons rfl ?_ | refine HeapSub.cons rfl ?_ | (refine EnvSub.cons (by simp [Env.get]; done) ?_) | (refine HeapSub.cons (by simp [Heap.get]; done) ?_))) (by repeat' (first | exact EnvSub.nil _ | exact HeapSub.nil _ | refine EnvSub.cons rfl ?_ | refine HeapSub.cons rfl ?_ | (refine EnvSub.cons (by simp [Env.get]; done) ?_) | (refine HeapSub.cons (by simp [Heap.get]; done) ?_)))
  case round =>
    rintro k ⟨hk, ho⟩ ih
    dsimp only at hk ho ih ⊢
    by_cases hkl : k < w.length
    · have q3 : ((k : Int) < w.length) = True := by first | (simp only [eq_iff_iff, iff_true]; first | assumption | omega) | (simp; omega)
      have gk : (List.map eW w).getD k [] = eW (w.getD k default) := getD_map _ _ _ hkl
      rw [drop_findW hkl] at ho
      have hz := fun h => ih (k + 1) ⟨by omega, h⟩ (by omega)
      clear ih
      generalize w.getD k default = x at *
      rw [eW] at gk
      by_cases h4 : x.v = v
      · rw [if_pos (decide_eq_true h4)] at ho
        rw [← ho] at hκ
        have q4 : (x.v = v) = True := by first | (simp only [eq_iff_iff, iff_true]; first | assumption | omega) | (simp; omega)
        refine hκ.run 300 ?_
        simp (disch := omega) only [push_cast, simprocAttr, q3, gk, q4]
        (repeat (refine ⟨by first | omega | (refine ⟨?_, ?_⟩ <;> omega) | trivial | (simp; done) | decide +kernel, fun _ => ?_⟩))
        refine hκ.ret _ _ _ _ _ _ trivial rfl ?_
        exact .ret (by simp [SV.bnd, SV.bndL, eW])
      · rw [if_neg (by simpa using h4)] at ho
        have hy := hz ho
        refine hκ.run 300 ?_
        simp (disch := omega) only [push_cast, simprocAttr, q3, gk, h4]
        (repeat (refine ⟨by first | omega | (refine ⟨?_, ?_⟩ <;> omega) | trivial | (simp; done) | decide +kernel, fun _ => ?_⟩))
        refine Sat.via (fun i => i) (hy) (by intro i j; (repeat (first | omega | split))) (by repeat' (first | exact EnvVia.nil | refine EnvVia.cons (by first | trivial | decide | (simp [SV.bnd, SV.bndL]; done)) rfl ?_)) (by repeat' (first | exact HeapVia.nil | refine HeapVia.cons (by decide) (by first | trivial | exact Blk.bnd_own0 (by assumption) | (simp [Blk.bnd, SV.bnd, SV.bndL]; done) | exact bndL_mapV _ _ _ | exact LR.bnd (by rw [l2]; simp [bndE, SV.bnd, SV.bndL]) (by rw [l6]; decide)) (by first | (rw [Blk.ren_own0 (by assumption)]; rfl) | rfl | (simp only [Blk.ren, renL_mapV]; rfl) | (rw [LR.ren (by rw [l2] <;> rfl) (by rw [l6] <;> rfl)]; rfl)) ?_)) ⟨by have := hκ.hm; (try dsimp only at this); (first | done | omega), fun i hi => by have := hκ.hm; (try dsimp only at this); (first | omega | (dsimp only; omega) | (rw [if_neg (by omega)]))⟩ ⟨by simp, rfl⟩
    · obtain rfl : k = w.length := by omega
      rw [List.drop_length, List.find?_nil] at ho
      rw [← ho] at hκ
      have q3 : ((w.length : Int) < w.length) = False := by first | (simp only [eq_iff_iff, iff_false]; first | assumption | omega) | (simp; omega)
      refine hκ.run 300 ?_
      simp (disch := omega) only [push_cast, simprocAttr, q3]
      refine hκ.ret _ _ _ _ _ _ trivial rfl ?_
      exact .ret (by simp [SV.bnd, SV.bndL, eW, wiD])
end Go.Proofs.YtnjgmjcokcfmkaaDoor

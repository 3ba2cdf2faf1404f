/- Walks of the document's match. No condition. -/
import Derived.Test.YtnjgmjcokcfmkaaDoorGv
namespace Go.Proofs.YtnjgmjcokcfmkaaDoor
open Go Go.Sy
set_option maxRecDepth 100000
set_option linter.unusedSimpArgs false
set_option linter.unusedVariables false
set_option maxHeartbeats 4000000

theorem rhas14_ok (l : List Int) (n : Int) (hn : l.length < 2 ^ 62) : Con Tryd.prog gl0 (fnv 88) [Is l, I n] 0 [] (Ret (Bo (decide (n ∈ l)))) := by
  refine Con.of Tryd.ok88 (nt := 17) (res := [.tmp 4]) Tryd.mixed Tryd.func88 rfl rfl rfl rfl fun κ xc hκ => hκ.run 300 ?_
  simp (disch := omega) only [push_cast, simprocAttr]
  refine Sat.less (Sat.loop (γ := Nat) (fun k => ([(9, I k), (8, I l.length), (7, Is l), (1, I n)], [], 0)) (fun k => l.length - k) (fun k => k ≤ l.length ∧ n ∉ l.take k) ?round 0 ⟨Nat.zero_le _, by simp⟩) (by repeat' (first | exact EnvSub.nil _ | exact HeapSub.nil _ | refine EnvSub.cons rfl ?_ | refine HeapSub.cons rfl ?_ | (refine EnvSub.cons (by simp [Env.get]; done) ?_) | (refine HeapSub.cons (by simp [Heap.get]; done) ?_))) (by repeat' (first | exact EnvSub.nil _ | exact HeapSub.nil _ | refine EnvSub.cons rfl ?_ | refine HeapSub.cons rfl ?_ | (refine EnvSub.cons (by simp [Env.get]; done) ?_) | (refine HeapSub.cons (by simp [Heap.get]; done) ?_)))
  case round =>
    rintro k ⟨hk, hl⟩ ih
    dsimp only at hk hl ih ⊢
    by_cases hkl : k < l.length
    · have q1 : ((k : Int) < l.length) = True := by first | (simp only [eq_iff_iff, iff_true]; first | assumption | omega) | (simp; omega)
      have gk : (List.map (eI .i64) l).getD k [] = eI .i64 (l.getD k default) := getD_map _ _ _ hkl
      have hs : l.take (k + 1) = l.take k ++ [l.getD k default] := by
        rw [List.take_succ_eq_append_getElem hkl, List.getD, List.getElem?_eq_getElem hkl]; rfl
      have hm := getD_mem' hkl
      have hz := fun h => ih (k + 1) ⟨by omega, h⟩ (by omega)
      rw [hs] at hz
      clear ih
      generalize l.getD k default = x at *
      by_cases hx : x = n
      · rw [decide_eq_true (hx ▸ hm)] at hκ
        refine hκ.run 300 ?_
        simp (disch := omega) only [push_cast, simprocAttr, q1, gk, hx]
        (repeat (refine ⟨by first | omega | (refine ⟨?_, ?_⟩ <;> omega) | trivial | (simp; done) | decide +kernel, fun _ => ?_⟩))
        refine hκ.ret _ _ _ _ _ _ trivial rfl ?_
        exact .ret trivial
      · have hz := hz (fun h => by
          rcases List.mem_append.1 h with h | h
          · exact hl h
          · exact hx (List.mem_singleton.1 h).symm)
        refine hκ.run 300 ?_
        simp (disch := omega) only [push_cast, simprocAttr, q1, gk, hx]
        (repeat (refine ⟨by first | omega | (refine ⟨?_, ?_⟩ <;> omega) | trivial | (simp; done) | decide +kernel, fun _ => ?_⟩))
        exact hz.less (by repeat' (first | exact EnvSub.nil _ | exact HeapSub.nil _ | refine EnvSub.cons rfl ?_ | refine HeapSub.cons rfl ?_ | (refine EnvSub.cons (by simp [Env.get]; done) ?_) | (refine HeapSub.cons (by simp [Heap.get]; done) ?_))) (by repeat' (first | exact EnvSub.nil _ | exact HeapSub.nil _ | refine EnvSub.cons rfl ?_ | refine HeapSub.cons rfl ?_ | (refine EnvSub.cons (by simp [Env.get]; done) ?_) | (refine HeapSub.cons (by simp [Heap.get]; done) ?_)))
    · obtain rfl : k = l.length := by omega
      rw [List.take_length] at hl
      rw [decide_eq_false hl] at hκ
      have q1 : ((l.length : Int) < l.length) = False := by first | (simp only [eq_iff_iff, iff_false]; first | assumption | omega) | (simp; omega)
      refine hκ.run 300 ?_
      simp (disch := omega) only [push_cast, simprocAttr, q1]
      refine hκ.ret _ _ _ _ _ _ trivial rfl ?_
      exact .ret trivial
abbrev fmV (o : Option (List Int)) : SV := .tup [Is (o.getD []), Bo o.isSome]
theorem match14_ok (l : List (List Int)) (hn : l.length < 2 ^ 40) (hl : ∀ r ∈ l, r.length < 2 ^ 40) : ∀ (n : Nat) (t : List Int), t.length + n = l.length →
    Con Tryd.prog gl0 (fnv 73) [Rws l, Is t] 0 [] (Ret (fmV (fm t (l.drop t.length)))) := by
  intro n
  induction n with
  | zero =>
    intro t ht
    rw [List.drop_of_length_le (by omega)]
    have e : (l.length : Int) = t.length := by omega
    refine Con.of Tryd.ok73 (nt := 43) (res := [.tmp 4, .tmp 5]) Tryd.mixed Tryd.func73 rfl rfl rfl rfl fun κ xc hκ => hκ.run 300 ?_
    simp (disch := omega) only [push_cast, simprocAttr, e]
    refine hκ.ret _ _ _ _ _ _ trivial rfl ?_
    exact .ret (by simp [SV.bnd, SV.bndL])
  | succ n ih =>
    intro t ht
    have hd : l.drop t.length = l.getD t.length default :: l.drop (t.length + 1) := by
      rw [List.drop_eq_getElem_cons (by omega), List.getD, List.getElem?_eq_getElem (by omega)]; rfl
    have gk : (List.map eRw l).getD t.length [] = eRw (l.getD t.length default) := getD_map _ _ _ (by omega)
    have hrl := hl _ (getD_mem' (show t.length < l.length by omega))
    rw [hd, fm]
    have step : ∀ c, Con Tryd.prog gl0 (fnv 73) [Rws l, Is (t ++ [c])] 0 [] (Ret (fmV (fm (t ++ [c]) (l.drop (t.length + 1))))) := fun c => by
      have := ih (t ++ [c]) (by simp; omega)
      rw [List.length_append] at this
      exact this
    clear ih
    generalize l.getD t.length default = row at *
    rw [eRw] at gk
    have e0 : ((l.length : Int) = t.length) = False := by first | (simp only [eq_iff_iff, iff_false]; first | assumption | omega) | (simp; omega)
    refine Con.of Tryd.ok73 (nt := 43) (res := [.tmp 4, .tmp 5]) Tryd.mixed Tryd.func73 rfl rfl rfl rfl fun κ xc hκ => hκ.run 300 ?_
    simp (disch := omega) only [push_cast, simprocAttr, e0, gk]
    (repeat (refine ⟨by first | omega | (refine ⟨?_, ?_⟩ <;> omega) | trivial | (simp; done) | decide +kernel, fun _ => ?_⟩))
    refine Sat.less (Sat.loop (γ := Nat) (fun k => ([(22, I k), (21, I row.length), (20, Is row), (0, Rws l), (1, Is t)], [], 0)) (fun k => row.length - k)
      (fun k => k ≤ row.length ∧ (row.drop k).findSome? (fun c => if c ∈ t then none else fm (t ++ [c]) (l.drop (t.length + 1))) = row.findSome? (fun c => if c ∈ t then none else fm (t ++ [c]) (l.drop (t.length + 1)))) ?round 0 ⟨Nat.zero_le _, rfl⟩) (by repeat' (first | exact EnvSub.nil _ | exact HeapSub.nil _ | refine EnvSub.cons rfl ?_ | refine HeapSub.cons rfl ?_ | (refine EnvSub.cons (by simp [Env.get]; done) ?_) | (refine HeapSub.cons (by simp [Heap.get]; done) ?_))) (by repeat' (first | exact EnvSub.nil _ | exact HeapSub.nil _ | refine EnvSub.cons rfl ?_ | refine HeapSub.cons rfl ?_ | (refine EnvSub.cons (by simp [Env.get]; done) ?_) | (refine HeapSub.cons (by simp [Heap.get]; done) ?_)))
    case round =>
      rintro k ⟨hk, hfs⟩ ih2
      dsimp only at hk hfs ih2 ⊢
      by_cases hkl : k < row.length
      · have q1 : ((k : Int) < row.length) = True := by first | (simp only [eq_iff_iff, iff_true]; first | assumption | omega) | (simp; omega)
        have gj : (List.map (eI .i64) row).getD k [] = eI .i64 (row.getD k default) := getD_map _ _ _ hkl
        have hdk : row.drop k = row.getD k default :: row.drop (k + 1) := by
          rw [List.drop_eq_getElem_cons hkl, List.getD, List.getElem?_eq_getElem hkl]; rfl
        rw [hdk, List.findSome?_cons] at hfs
        have hz := fun h => ih2 (k + 1) ⟨by omega, h⟩ (by omega)
        clear ih2
        generalize row.getD k default = c at *
        have c1 := rhas14_ok t c (by omega)
        by_cases hc : c ∈ t
        · rw [decide_eq_true hc] at c1
          rw [if_pos hc] at hfs
          have hz := hz hfs
          refine hκ.run 300 ?_
          simp (disch := omega) only [push_cast, simprocAttr, q1, gj]
          (repeat (refine ⟨by first | omega | (refine ⟨?_, ?_⟩ <;> omega) | trivial | (simp; done) | decide +kernel, fun _ => ?_⟩))
          refine Does.ret hκ.hP hκ.hgl c1 ⟨trivial, by first | (simp [SV.bnd, SV.bndL]; done) | (simp [SV.bnd, SV.bndL, ec_bnd]; done), by first | (simp [SV.bnd, SV.bndL]; done) | (simp [SV.bnd, SV.bndL, ec_bnd]; done) | assumption⟩ ?_
          refine hκ.run 300 ?_
          simp (disch := omega) only [push_cast, simprocAttr, q1, gj]
          exact hz.less (by repeat' (first | exact EnvSub.nil _ | exact HeapSub.nil _ | refine EnvSub.cons rfl ?_ | refine HeapSub.cons rfl ?_ | (refine EnvSub.cons (by simp [Env.get]; done) ?_) | (refine HeapSub.cons (by simp [Heap.get]; done) ?_))) (by repeat' (first | exact EnvSub.nil _ | exact HeapSub.nil _ | refine EnvSub.cons rfl ?_ | refine HeapSub.cons rfl ?_ | (refine EnvSub.cons (by simp [Env.get]; done) ?_) | (refine HeapSub.cons (by simp [Heap.get]; done) ?_)))
        · rw [decide_eq_false hc] at c1
          rw [if_neg hc] at hfs
          have c2 := step c
          have et : List.take t.length (List.map (eI .i64) t) = List.map (eI .i64) t := List.take_of_length_le (by simp)
          have et2 : List.take (t ++ [c]).length (List.map (eI .i64) (t ++ [c])) = List.map (eI .i64) (t ++ [c]) := List.take_of_length_le (by simp)
          refine hκ.run 300 ?_
          simp (disch := omega) only [push_cast, simprocAttr, q1, gj, et]
          (repeat (refine ⟨by first | omega | (refine ⟨?_, ?_⟩ <;> omega) | trivial | (simp; done) | decide +kernel, fun _ => ?_⟩))
          refine Does.ret hκ.hP hκ.hgl c1 ⟨trivial, by first | (simp [SV.bnd, SV.bndL]; done) | (simp [SV.bnd, SV.bndL, ec_bnd]; done), by first | (simp [SV.bnd, SV.bndL]; done) | (simp [SV.bnd, SV.bndL, ec_bnd]; done) | assumption⟩ ?_
          refine hκ.run 300 ?_
          simp (disch := omega) only [push_cast, simprocAttr, q1, gj, et]
          refine ⟨⟨by omega, by omega⟩, fun _ => ?_⟩
          intro i1
          refine ⟨⟨Nat.le_refl _, by omega, by omega⟩, fun _ => ?_⟩
          intro i2
          have em : List.map (eI .i64) t ++ [[.v (.int .i64 c)]] = (t ++ [c]).map (eI .i64) := by rw [List.map_append]; rfl
          have el : t.length + 1 = (t ++ [c]).length := by simp
          rw [em, el]
          refine Does.frz [3] ⟨trivial, rfl⟩ (by first | (simp [lendPL, lendP, lendSlP, Heap.get]; done) | (simp only [lendPL, lendP, lendSlP, Heap.get, List.mem_singleton, List.mem_cons, List.not_mem_nil, or_false, or_true, true_or, Nat.reduceEqDiff, Nat.one_ne_zero, Nat.zero_ne_one, ↓reduceIte, and_true, true_and, List.length_map, List.length_append, List.length_cons, List.length_nil, List.length_replicate]; omega)) ?_
          simp only [lendL, lendS, lendSl, Heap.get, without, List.mem_singleton, List.mem_cons, List.not_mem_nil, or_false, or_true, true_or, List.drop_zero, List.take_length, List.take_succ_cons, List.take_zero, Nat.reduceAdd, Nat.reduceEqDiff, Nat.one_ne_zero, Nat.zero_ne_one, ↓reduceIte]
          rw [et2]
          cases hf : fm (t ++ [c]) (l.drop (t.length + 1)) with
          | none =>
            rw [hf] at c2 hfs
            have hz := hz hfs
            refine Does.ret hκ.hP hκ.hgl c2 ⟨trivial, by first | (simp [SV.bnd, SV.bndL]; done) | (simp [SV.bnd, SV.bndL, ec_bnd]; done), by first | (simp [SV.bnd, SV.bndL]; done) | (simp [SV.bnd, SV.bndL, ec_bnd]; done) | assumption⟩ ?_
            refine hκ.run 300 ?_
            simp (disch := omega) only [push_cast, simprocAttr, q1, gj, et]
            refine Sat.via (fun i => i) (hz) (by intro i j; (repeat (first | omega | split))) (by repeat' (first | exact EnvVia.nil | refine EnvVia.cons (by first | trivial | decide | (simp [SV.bnd, SV.bndL]; done)) rfl ?_)) (by repeat' (first | exact HeapVia.nil | refine HeapVia.cons (by decide) (by first | trivial | exact Blk.bnd_own0 (by assumption) | (simp [Blk.bnd, SV.bnd, SV.bndL]; done) | exact bndL_mapV _ _ _ | exact LR.bnd (by rw [l2]; simp [bndE, SV.bnd, SV.bndL]) (by rw [l6]; decide)) (by first | (rw [Blk.ren_own0 (by assumption)]; rfl) | rfl | (simp only [Blk.ren, renL_mapV]; rfl) | (rw [LR.ren (by rw [l2] <;> rfl) (by rw [l6] <;> rfl)]; rfl)) ?_)) ⟨by have := hκ.hm; (try dsimp only at this); (first | done | omega), fun i hi => by have := hκ.hm; (try dsimp only at this); (first | omega | (dsimp only; omega) | (rw [if_neg (by omega)]))⟩ ⟨by simp, rfl⟩
          | some m =>
            rw [hf] at c2 hfs
            rw [← hfs] at hκ
            refine Does.ret hκ.hP hκ.hgl c2 ⟨trivial, by first | (simp [SV.bnd, SV.bndL]; done) | (simp [SV.bnd, SV.bndL, ec_bnd]; done), by first | (simp [SV.bnd, SV.bndL]; done) | (simp [SV.bnd, SV.bndL, ec_bnd]; done) | assumption⟩ ?_
            refine hκ.run 300 ?_
            simp (disch := omega) only [push_cast, simprocAttr, q1, gj, et]
            refine hκ.ret _ _ _ _ _ _ trivial rfl ?_
            exact .ret (by simp [SV.bnd, SV.bndL])
      · obtain rfl : k = row.length := by omega
        rw [List.drop_length] at hfs
        rw [← hfs] at hκ
        have q1 : ((row.length : Int) < row.length) = False := by first | (simp only [eq_iff_iff, iff_false]; first | assumption | omega) | (simp; omega)
        refine hκ.run 300 ?_
        simp (disch := omega) only [push_cast, simprocAttr, q1]
        refine Sat.nilRd 4 1 rfl ?_
        refine hκ.ret _ _ _ _ _ _ trivial rfl ?_
        exact .ret (by simp [SV.bnd, SV.bndL])
end Go.Proofs.YtnjgmjcokcfmkaaDoor

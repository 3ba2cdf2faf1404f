/- A copy of what is picked from. No condition. -/
import Derived.Test.YtnjgmjcokcfmkaaDoorQl
import Derived.Test.YtnjgmjcokcfmkaaDoorQm
namespace Go.Proofs.YtnjgmjcokcfmkaaDoor
open Go Go.Sy
set_option maxRecDepth 100000
set_option linter.unusedSimpArgs false
set_option linter.unusedVariables false
set_option maxHeartbeats 8000000

theorem copied_ok (l : List En) (w : List Wi) (free : Nat) (hl : ∀ x ∈ l, inE x) (hn : l.length < 2 ^ 40) (hn2 : w.length < 2 ^ 40) : Con Tryd.prog gl0 (fnv 12) [Ak l w free] 0 [] (Ret (Ak l w free)) := by
  refine Con.of Tryd.ok12 (nt := 33) (res := [.cell 2 27]) Tryd.mixed Tryd.func12 rfl rfl rfl rfl fun κ xc hκ => hκ.runD 300 ?_
  simp (disch := omega) only [push_cast, simprocAttr]
  apply Sat.join (κ := κ) (x := xc) (α := Nat) (nx := 4) (dfs := []) (fun c => w.length ≤ c) (fun c => ([(3, .ptr 2 0 0 0), (2, .ptr 1 0 0 0), (1, .ptr 0 0 0 0)],
    [(0, .own [Ens l, Ws w, S free] 27), (1, .own [nilS, nilS, S 0] 27), (2, .own [nilS, .sl 3 4 0 w.length c, S free] 27), (3, .row 4 c 45 (w.map eW))]))
  · intro hj
    refine hκ.draw (.q 1 (.q 2 (.q 4 (.q 5 (.or (.m 0 [2, 5] (.or (.m 3 [5] (.q 6 (.l 7 [2, 5] (.l 8 [] (.fin))))) (.m 7 [2, 5] (.l 3 [5] (.q 6 (.l 8 [] (.fin))))))) (.m 7 [2, 5] (.l 0 [2, 5] (.l 3 [5] (.q 6 (.l 8 [] (.fin))))))))))) [1, 2, 4, 5, 6] (by kernel_rfl) (by kernel_rfl) rfl ?_
    simp (disch := omega) only [push_cast, simprocAttr]
    repeat' (refine And.intro ?_ ?_)
    all_goals try (exact ⟨by omega, by omega⟩)
    all_goals try omega
    · intro _ i
      have hy := hj (w.length + i) (by omega)
      dsimp only at hy
      refine Sat.via (fun i => if i = 2 then 4 else i) (hy) (by intro i j; (repeat (first | omega | split))) (by repeat' (first | exact EnvVia.nil | refine EnvVia.cons (by first | trivial | decide | (simp [SV.bnd, SV.bndL]; done)) rfl ?_)) (by repeat' (first | exact HeapVia.nil | refine HeapVia.cons (by decide) (by first | trivial | exact Blk.bnd_own0 (by assumption) | (simp [Blk.bnd, SV.bnd, SV.bndL]; done) | exact bndL_mapV _ _ _ | exact LR.bnd (by rw [l2]; simp [bndE, SV.bnd, SV.bndL]) (by rw [l6]; decide)) (by first | (rw [Blk.ren_own0 (by assumption)]; rfl) | rfl | (simp only [Blk.ren, renL_mapV]; rfl) | (rw [LR.ren (by rw [l2] <;> rfl) (by rw [l6] <;> rfl)]; rfl)) ?_)) ⟨by have := hκ.hm; (try dsimp only at this); (first | done | omega), fun i hi => by have := hκ.hm; (try dsimp only at this); (first | omega | (dsimp only; omega) | (rw [if_neg (by omega)]))⟩ ⟨by simp, rfl⟩
    · intro _ i
      have hy := hj (w.length + i) (by omega)
      dsimp only at hy
      refine Sat.via (fun i => if i = 2 then 3 else if i = 3 then 4 else i) (hy) (by intro i j; (repeat (first | omega | split))) (by repeat' (first | exact EnvVia.nil | refine EnvVia.cons (by first | trivial | decide | (simp [SV.bnd, SV.bndL]; done)) rfl ?_)) (by repeat' (first | exact HeapVia.nil | refine HeapVia.cons (by decide) (by first | trivial | exact Blk.bnd_own0 (by assumption) | (simp [Blk.bnd, SV.bnd, SV.bndL]; done) | exact bndL_mapV _ _ _ | exact LR.bnd (by rw [l2]; simp [bndE, SV.bnd, SV.bndL]) (by rw [l6]; decide)) (by first | (rw [Blk.ren_own0 (by assumption)]; rfl) | rfl | (simp only [Blk.ren, renL_mapV]; rfl) | (rw [LR.ren (by rw [l2] <;> rfl) (by rw [l6] <;> rfl)]; rfl)) ?_)) ⟨by have := hκ.hm; (try dsimp only at this); (first | done | omega), fun i hi => by have := hκ.hm; (try dsimp only at this); (first | omega | (dsimp only; omega) | (rw [if_neg (by omega)]))⟩ ⟨by simp, rfl⟩
    · intro _ i
      have hy := hj (w.length + i) (by omega)
      dsimp only at hy
      refine Sat.via (fun i => if i = 3 then 4 else i) (hy) (by intro i j; (repeat (first | omega | split))) (by repeat' (first | exact EnvVia.nil | refine EnvVia.cons (by first | trivial | decide | (simp [SV.bnd, SV.bndL]; done)) rfl ?_)) (by repeat' (first | exact HeapVia.nil | refine HeapVia.cons (by decide) (by first | trivial | exact Blk.bnd_own0 (by assumption) | (simp [Blk.bnd, SV.bnd, SV.bndL]; done) | exact bndL_mapV _ _ _ | exact LR.bnd (by rw [l2]; simp [bndE, SV.bnd, SV.bndL]) (by rw [l6]; decide)) (by first | (rw [Blk.ren_own0 (by assumption)]; rfl) | rfl | (simp only [Blk.ren, renL_mapV]; rfl) | (rw [LR.ren (by rw [l2] <;> rfl) (by rw [l6] <;> rfl)]; rfl)) ?_)) ⟨by have := hκ.hm; (try dsimp only at this); (first | done | omega), fun i hi => by have := hκ.hm; (try dsimp only at this); (first | omega | (dsimp only; omega) | (rw [if_neg (by omega)]))⟩ ⟨by simp, rfl⟩
  intro c hc
  dsimp only
  refine Sat.nilCell 2 6 56 27 [] [.sl 3 4 0 w.length c, S free] rfl ?_
  simp (disch := omega) only [push_cast, simprocAttr]
  refine hκ.run 300 ?_
  simp (disch := omega) only [push_cast, simprocAttr]
  refine Sat.less (Sat.loop (γ := Nat × Nat) (fun g => ([(16, I g.1), (15, I l.length), (14, Ens l), (3, .ptr 2 0 0 0), (2, .ptr 1 0 0 0)],
    [(1, .own [nilS, nilS, S 0] 27), (2, .own [.sl 4 6 0 (l.take g.1).length g.2, .sl 3 4 0 w.length c, S free] 27), (3, .row 4 c 45 (w.map eW)), (4, .row 6 g.2 56 ((l.take g.1).map eEn))], 5)) (fun g => l.length - g.1) (fun g => g.1 ≤ l.length ∧ (l.take g.1).length ≤ g.2) ?round (0, 0) ⟨Nat.zero_le _, by simp⟩) (by repeat' (first | exact EnvSub.nil _ | exact HeapSub.nil _ | refine EnvSub.cons rfl ?_ | refine HeapSub.cons rfl ?_ | (refine EnvSub.cons (by simp [Env.get]; done) ?_) | (refine HeapSub.cons (by simp [Heap.get]; done) ?_))) (by repeat' (first | exact EnvSub.nil _ | exact HeapSub.nil _ | refine EnvSub.cons rfl ?_ | refine HeapSub.cons rfl ?_ | (refine EnvSub.cons (by simp [Env.get]; done) ?_) | (refine HeapSub.cons (by simp [Heap.get]; done) ?_)))
  case round =>
    rintro ⟨k, cap⟩ ⟨hk, hcap⟩ ih
    dsimp only at hk hcap ih ⊢
    by_cases hkl : k < l.length
    · have q1 : ((k : Int) < l.length) = True := by first | (simp only [eq_iff_iff, iff_true]; first | assumption | omega) | (simp; omega)
      have e00 : (0 ≤ (k : Int)) = True := by first | (simp only [eq_iff_iff, iff_true]; first | assumption | omega) | (simp; omega)
      have gk : (List.map eEn l).getD k [] = eEn (l.getD k default) := getD_map _ _ _ hkl
      have hs : l.take (k + 1) = l.take k ++ [l.getD k default] := by
        rw [List.take_succ_eq_append_getElem hkl, List.getD, List.getElem?_eq_getElem hkl]; rfl
      have hz := fun cap h => ih (k + 1, cap) ⟨by dsimp only; omega, h⟩ (by dsimp only; omega)
      dsimp only at hz
      rw [hs] at hz
      have hol : (l.take k).length ≤ k := by rw [List.length_take]; omega
      have hx := (hl _ (getD_mem' hkl)).2
      clear ih hs
      generalize l.getD k default = x at *
      generalize l.take k = out at *
      rw [eEn] at gk
      have et : List.take out.length (List.map eEn out) = List.map eEn out := List.take_of_length_le (by simp)
      refine hκ.runA 6 300 ?_
      simp (disch := omega) only [push_cast, simprocAttr, q1, e00, gk, et]
      refine ⟨by omega, fun _ => ?_⟩
      intro i
      have etx : List.take x.ms.length (List.map (eI .i64) x.ms) = List.map (eI .i64) x.ms := List.take_of_length_le (by simp)
      refine Sat.frzOwn [7] 5 _ _ rfl (by decide) (by first | (simp [lendPL, lendP, lendSlP, Heap.get]; done) | (simp only [lendPL, lendP, lendSlP, Heap.get, List.mem_singleton, List.mem_cons, List.not_mem_nil, or_false, or_true, true_or, Nat.reduceEqDiff, Nat.one_ne_zero, Nat.zero_ne_one, ↓reduceIte, and_true, true_and, List.length_map, List.length_append, List.length_cons, List.length_nil, List.length_replicate]; omega)) ?_
      simp only [lendL, lendS, lendSl, Heap.get, without, List.mem_singleton, List.mem_cons, List.not_mem_nil, or_false, or_true, true_or, List.drop_zero, List.take_length, List.take_succ_cons, List.take_zero, Nat.reduceAdd, Nat.reduceEqDiff, Nat.one_ne_zero, Nat.zero_ne_one, ↓reduceIte]
      simp only [Heap.set, Nat.reduceEqDiff, ↓reduceIte, etx]
      refine hκ.run 300 ?_
      simp (disch := omega) only [push_cast, simprocAttr, q1, e00, gk, et]
      refine ⟨⟨Nat.le_refl _, by omega, by omega⟩, fun _ => ?_⟩
      intro i2
      have hy := hz (out.length + 1 + i2) (by simp)
      simp only [List.length_append, List.length_cons, List.length_nil, List.length_singleton, List.length_map, List.length_set, List.length_replicate, Nat.zero_add, Nat.add_zero, Int.natCast_add, Int.natCast_one, Int.ofNat_eq_natCast, List.map_append, List.map_cons, List.map_nil, List.take_length, eI, eB] at hy ⊢
      rw [eEn] at hy
      refine Sat.via (fun i => if i = 4 then 9 else i) (hy) (by intro i j; (repeat (first | omega | split))) (by repeat' (first | exact EnvVia.nil | refine EnvVia.cons (by first | trivial | decide | (simp [SV.bnd, SV.bndL]; done)) rfl ?_)) (by repeat' (first | exact HeapVia.nil | refine HeapVia.cons (by decide) (by first | trivial | exact Blk.bnd_own0 (by assumption) | (simp [Blk.bnd, SV.bnd, SV.bndL]; done) | exact bndL_mapV _ _ _ | exact LR.bnd (by rw [l2]; simp [bndE, SV.bnd, SV.bndL]) (by rw [l6]; decide)) (by first | (rw [Blk.ren_own0 (by assumption)]; rfl) | rfl | (simp only [Blk.ren, renL_mapV]; rfl) | (rw [LR.ren (by rw [l2] <;> rfl) (by rw [l6] <;> rfl)]; rfl)) ?_)) ⟨by have := hκ.hm; (try dsimp only at this); (first | done | omega), fun i hi => by have := hκ.hm; (try dsimp only at this); (first | omega | (dsimp only; omega) | (rw [if_neg (by omega)]))⟩ ⟨by simp, rfl⟩
    · obtain rfl : k = l.length := by omega
      rw [List.take_length] at hcap ⊢
      have q1 : ((l.length : Int) < l.length) = False := by first | (simp only [eq_iff_iff, iff_false]; first | assumption | omega) | (simp; omega)
      refine hκ.run 300 ?_
      simp (disch := omega) only [push_cast, simprocAttr, q1]
      refine hκ.ret _ _ _ _ _ _ trivial rfl ?_
      have et1 : List.take l.length (List.map eEn l) = List.map eEn l := List.take_of_length_le (by simp)
      have et2 : List.take w.length (List.map eW w) = List.map eW w := List.take_of_length_le (by simp)
      refine Post.frz [4, 3] (by first | (simp [lendPL, lendP, lendSlP, dropL, Heap.get, Heap.drop, resV]; done) | (simp [lendPL, lendP, lendSlP, dropL, Heap.get, Heap.drop, resV]; omega) | (simp [lendPL, lendP, lendSlP, dropL, Heap.get, Heap.drop, resV, -List.length_eq_zero_iff]; omega)) ?_
      simp only [resV, lendL, lendS, lendSl, dropL, Heap.drop, Heap.get, List.mem_singleton, List.mem_cons, List.not_mem_nil, or_false, or_true, true_or, List.drop_zero, Nat.reduceEqDiff, Nat.one_ne_zero, Nat.zero_ne_one, ↓reduceIte, et1, et2]
      exact .ret (by simp [SV.bnd, SV.bndL])
end Go.Proofs.YtnjgmjcokcfmkaaDoor

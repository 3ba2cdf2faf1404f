/- The document's Takes. No condition. -/
import Derived.Test.YtnjgmjcokcfmkaaDoorQk
import Derived.Test.YtnjgmjcokcfmkaaDoorR13b
import Derived.Test.YtnjgmjcokcfmkaaDoorQr
namespace Go.Proofs.YtnjgmjcokcfmkaaDoor
open Go Go.Sy
set_option maxRecDepth 100000
set_option linter.unusedSimpArgs false
set_option linter.unusedVariables false
set_option maxHeartbeats 4000000

/-- The choices of members, by who they are. -/
def chsM (w : List Wi) (free : Nat) (ms : List Int) : List (List Int) := ms.map fun v => chs (wshO w v) free
theorem chsM_eq {w : List Wi} {x : En} (h : okW w x) (free : Nat) : chsM w free x.ms = chsL (wsh w x.ms) free := by
  obtain ⟨-, h2, h3⟩ := h
  apply List.ext_getElem
  · simp [chsM, chsL, h2]
  · intro i h4 h5
    simp only [chsM, chsL, List.length_map] at h4 h5
    have := h3 i h4
    rw [List.getD, List.getD, List.getElem?_eq_getElem h4, List.getElem?_eq_getElem h5, Option.getD_some, Option.getD_some] at this
    simp only [chsM, chsL, List.getElem_map, this]
/-- What the document's Takes gives. -/
def rtkV (w : List Wi) (x : En) (free : Nat) : SV := if x.ms.length = 1 then .tup [Is [(takesW (wshO w (x.ms.getD 0 default)) free).getD (-1)], Bo (takesW (wshO w (x.ms.getD 0 default)) free).isSome] else fmV (fm [] (chsM w free x.ms))
theorem rTakes_ok (w : List Wi) (x : En) (free : Nat) (hw : ∀ y ∈ w, inW y) (hm : ∀ y ∈ w, okM y.m = true) (hx : okW w x) (h8 : x.ms.length ≤ 8) (hn : w.length < 2 ^ 40) (hf : free < 256) : Con Tryd.prog gl0 (fnv 46) [.agg (eEn x), Ws w, S free] 0 [] (Ret (rtkV w x free)) := by
  have te : takeN (eEn x) 6 = some (eEn x) := rfl
  have cm : cut (eEn x) 0 1 = some [Is x.ms] := rfl
  have t1 : takeN (eEn x) 1 = some [Is x.ms] := rfl
  have on : ones (eEn x) := ⟨trivial, rfl, rfl, rfl, rfl, rfl, trivial⟩
  have le : (eEn x).length = 6 := rfl
  have tk : List.take 6 (eEn x) = eEn x := rfl
  have idf : idFrees (eEn x) = true := rfl
  by_cases h1 : x.ms.length = 1
  · rw [rtkV, if_pos h1]
    have q1 : ((x.ms.length : Int) = 1) = True := by first | (simp only [eq_iff_iff, iff_true]; first | assumption | omega) | (simp; omega)
    have q2 : (0 < (x.ms.length : Int)) = True := by first | (simp only [eq_iff_iff, iff_true]; first | assumption | omega) | (simp; omega)
    have g0 : (List.map (eI .i64) x.ms).getD 0 [] = eI .i64 (x.ms.getD 0 default) := getD_map _ _ _ (by omega)
    have c1 := rWish_ok w (x.ms.getD 0 default) hn
    have hmem := okW_mem hx
    have c2 := rtakes_ok (wshO w (x.ms.getD 0 default)) free (hw _ hmem) (hm _ hmem) hf
    have tb : ∀ c, takesW (wshO w (x.ms.getD 0 default)) free = some c → 0 ≤ c := fun c h => (takes_bd h).1
    generalize wshO w (x.ms.getD 0 default) = wo at *
    rw [eW] at c1 c2
    refine Con.of Tryd.ok46 (nt := 50) (res := [.tmp 6, .tmp 7]) Tryd.mixed Tryd.func46 rfl rfl rfl rfl fun κ xc hκ => hκ.run 300 ?_
    simp (disch := omega) only [push_cast, simprocAttr, te, cm, t1, on, le, tk, idf, q1, q2, g0]
    refine Does.ret hκ.hP hκ.hgl c1 ⟨trivial, by first | (simp [SV.bnd, SV.bndL]; done) | (simp [SV.bnd, SV.bndL, ec_bnd]; done), by first | (simp [SV.bnd, SV.bndL]; done) | (simp [SV.bnd, SV.bndL, ec_bnd]; done) | assumption⟩ ?_
    refine hκ.run 300 ?_
    simp (disch := omega) only [push_cast, simprocAttr, te, cm, t1, on, le, tk, idf, q1, q2, g0]
    refine Does.ret hκ.hP hκ.hgl c2 ⟨trivial, by first | (simp [SV.bnd, SV.bndL]; done) | (simp [SV.bnd, SV.bndL, ec_bnd]; done), by first | (simp [SV.bnd, SV.bndL]; done) | (simp [SV.bnd, SV.bndL, ec_bnd]; done) | assumption⟩ ?_
    cases ht : takesW wo free with
    | none =>
      rw [ht] at hκ
      dsimp only [Option.getD_none, Option.isSome_none] at hκ ⊢
      refine hκ.run 300 ?_
      simp (disch := omega) only [push_cast, simprocAttr, te, cm, t1, on, le, tk, idf, q1, q2, g0]
      refine hκ.ret _ _ _ _ _ _ trivial rfl ?_
      have et : List.take 1 [[SV.v (.int .i64 (-1))]] = [[SV.v (.int .i64 (-1))]] := rfl
      refine Post.frz [1] (by first | (simp [lendPL, lendP, lendSlP, dropL, Heap.get, Heap.drop, resV]; done) | (simp [lendPL, lendP, lendSlP, dropL, Heap.get, Heap.drop, resV]; omega) | (simp [lendPL, lendP, lendSlP, dropL, Heap.get, Heap.drop, resV, -List.length_eq_zero_iff]; omega)) ?_
      simp only [resV, lendL, lendS, lendSl, dropL, Heap.drop, Heap.get, List.mem_singleton, List.mem_cons, List.not_mem_nil, or_false, or_true, true_or, List.drop_zero, Nat.reduceEqDiff, Nat.one_ne_zero, Nat.zero_ne_one, ↓reduceIte, et]
      exact .ret (by simp [SV.bnd, SV.bndL])
    | some c =>
      have c0 := tb c ht
      have z1 : ((0 : Int) ≤ c) = True := by first | (simp only [eq_iff_iff, iff_true]; first | assumption | omega) | (simp; omega)
      rw [ht] at hκ
      dsimp only [Option.getD_some, Option.isSome_some] at hκ ⊢
      refine hκ.run 300 ?_
      simp (disch := omega) only [push_cast, simprocAttr, te, cm, t1, on, le, tk, idf, q1, q2, g0, z1]
      refine hκ.ret _ _ _ _ _ _ trivial rfl ?_
      have et : List.take 1 [[SV.v (.int .i64 c)]] = [[SV.v (.int .i64 c)]] := rfl
      refine Post.frz [1] (by first | (simp [lendPL, lendP, lendSlP, dropL, Heap.get, Heap.drop, resV]; done) | (simp [lendPL, lendP, lendSlP, dropL, Heap.get, Heap.drop, resV]; omega) | (simp [lendPL, lendP, lendSlP, dropL, Heap.get, Heap.drop, resV, -List.length_eq_zero_iff]; omega)) ?_
      simp only [resV, lendL, lendS, lendSl, dropL, Heap.drop, Heap.get, List.mem_singleton, List.mem_cons, List.not_mem_nil, or_false, or_true, true_or, List.drop_zero, Nat.reduceEqDiff, Nat.one_ne_zero, Nat.zero_ne_one, ↓reduceIte, et]
      exact .ret (by simp [SV.bnd, SV.bndL])
  · rw [rtkV, if_neg h1]
    have q1 : ((x.ms.length : Int) = 1) = False := by first | (simp only [eq_iff_iff, iff_false]; first | assumption | omega) | (simp; omega)
    have hlen : 1 ≤ x.ms.length := hx.1
    have hcl : ∀ r ∈ chsM w free x.ms, r.length < 2 ^ 40 := fun r hr => by
      obtain ⟨v, -, rfl⟩ := List.mem_map.1 hr
      have := chs_len (wshO w v) free; omega
    have cM := match14_ok (chsM w free x.ms) (by simp [chsM]; omega) hcl (chsM w free x.ms).length [] (by simp)
    rw [List.length_nil, List.drop_zero] at cM
    refine Con.of Tryd.ok46 (nt := 50) (res := [.tmp 6, .tmp 7]) Tryd.mixed Tryd.func46 rfl rfl rfl rfl fun κ xc hκ => hκ.runD 300 ?_
    simp (disch := omega) only [push_cast, simprocAttr, te, cm, t1, on, le, tk, idf, q1]
    refine hκ.runA 5 300 ?_
    simp (disch := omega) only [push_cast, simprocAttr, te, cm, t1, on, le, tk, idf, q1]
    refine Sat.nilRow 9 1 31 rfl ?_
    refine hκ.run 300 ?_
    simp (disch := omega) only [push_cast, simprocAttr, te, cm, t1, on, le, tk, idf, q1]
    refine Sat.less (Sat.loop (γ := Nat × Nat) (fun g => ([(10, I g.1), (9, .sl 1 1 0 (chsM w free (x.ms.take g.1)).length g.2), (3, .ptr 0 0 0 0), (1, Ws w), (2, S free)], [(0, .own (eEn x) 56), (1, .row 1 g.2 31 ((chsM w free (x.ms.take g.1)).map eRw))], 2)) (fun g => x.ms.length - g.1)
      (fun g => g.1 ≤ x.ms.length ∧ (chsM w free (x.ms.take g.1)).length ≤ g.2) ?round (0, 0) ⟨Nat.zero_le _, Nat.le_refl _⟩) (by repeat' (first | exact EnvSub.nil _ | exact HeapSub.nil _ | refine EnvSub.cons rfl ?_ | refine HeapSub.cons rfl ?_ | (refine EnvSub.cons (by simp [Env.get]; done) ?_) | (refine HeapSub.cons (by simp [Heap.get]; done) ?_))) (by repeat' (first | exact EnvSub.nil _ | exact HeapSub.nil _ | refine EnvSub.cons rfl ?_ | refine HeapSub.cons rfl ?_ | (refine EnvSub.cons (by simp [Env.get]; done) ?_) | (refine HeapSub.cons (by simp [Heap.get]; done) ?_)))
    case round =>
      rintro ⟨k, cp⟩ ⟨hk, hcp⟩ ih
      dsimp only at hk hcp ih ⊢
      by_cases hkl : k < x.ms.length
      · have q3 : ((k : Int) < x.ms.length) = True := by first | (simp only [eq_iff_iff, iff_true]; first | assumption | omega) | (simp; omega)
        have e0 : (0 ≤ (k : Int)) = True := by first | (simp only [eq_iff_iff, iff_true]; first | assumption | omega) | (simp; omega)
        have gj : (List.map (eI .i64) x.ms).getD k [] = eI .i64 (x.ms.getD k default) := getD_map _ _ _ hkl
        have hs : x.ms.take (k + 1) = x.ms.take k ++ [x.ms.getD k default] := by
          rw [List.take_succ_eq_append_getElem hkl, List.getD, List.getElem?_eq_getElem hkl]; rfl
        have hz := fun cp h => ih (k + 1, cp) ⟨by omega, h⟩ (by dsimp only; omega)
        dsimp only at hz
        rw [hs, show chsM w free (x.ms.take k ++ [x.ms.getD k default]) = chsM w free (x.ms.take k) ++ [chs (wshO w (x.ms.getD k default)) free] by simp [chsM]] at hz
        have hpl : (chsM w free (x.ms.take k)).length ≤ k := by simp [chsM]; omega
        have c1 := rWish_ok w (x.ms.getD k default) hn
        have hmem : wshO w (x.ms.getD k default) ∈ w := by
          rw [hx.2.2 k hkl]
          exact (List.mem_filter.1 (getD_mem' (show k < (wsh w x.ms).length by rw [hx.2.1]; exact hkl))).1
        have c2 := (rChoices_ok (wshO w (x.ms.getD k default)) free (hw _ hmem) (hm _ hmem) hf).toRd
        clear ih hs
        generalize x.ms.getD k default = v at *
        generalize chsM w free (x.ms.take k) = pre at *
        generalize wshO w v = wo at *
        generalize chs wo free = c at *
        have et : List.take pre.length (List.map eRw pre) = List.map eRw pre := List.take_of_length_le (by simp)
        rw [eW] at c1 c2
        refine hκ.run 300 ?_
        simp (disch := omega) only [push_cast, simprocAttr, te, cm, t1, on, le, tk, idf, q1, q3, e0, gj, et]
        refine Does.ret hκ.hP hκ.hgl c1 ⟨trivial, by first | (simp [SV.bnd, SV.bndL]; done) | (simp [SV.bnd, SV.bndL, ec_bnd]; done), by first | (simp [SV.bnd, SV.bndL]; done) | (simp [SV.bnd, SV.bndL, ec_bnd]; done) | assumption⟩ ?_
        refine hκ.run 300 ?_
        simp (disch := omega) only [push_cast, simprocAttr, te, cm, t1, on, le, tk, idf, q1, q3, e0, gj, et]
        refine Does.ret hκ.hP hκ.hgl c2 ⟨trivial, by first | (simp [SV.bnd, SV.bndL]; done) | (simp [SV.bnd, SV.bndL, ec_bnd]; done), by first | (simp [SV.bnd, SV.bndL]; done) | (simp [SV.bnd, SV.bndL, ec_bnd]; done) | assumption⟩ ?_
        refine hκ.run 300 ?_
        simp (disch := omega) only [push_cast, simprocAttr, te, cm, t1, on, le, tk, idf, q1, q3, e0, gj, et]
        refine ⟨⟨by omega, by omega, by omega⟩, fun _ => ?_⟩
        intro i
        have hy := hz (pre.length + 1 + i) (by simp)
        simp only [List.length_append, List.length_cons, List.length_nil, List.length_singleton, List.length_map, List.length_set, List.length_replicate, Nat.zero_add, Nat.add_zero, Int.natCast_add, Int.natCast_one, Int.ofNat_eq_natCast, List.map_append, List.map_cons, List.map_nil, List.take_length, eI, eB] at hy ⊢
        refine Sat.via (fun i => if i = 1 then 3 else i) (hy) (by intro i j; (repeat (first | omega | split))) (by repeat' (first | exact EnvVia.nil | refine EnvVia.cons (by first | trivial | decide | (simp [SV.bnd, SV.bndL]; done)) rfl ?_)) (by repeat' (first | exact HeapVia.nil | refine HeapVia.cons (by decide) (by first | trivial | exact Blk.bnd_own0 (by assumption) | (simp [Blk.bnd, SV.bnd, SV.bndL]; done) | exact bndL_mapV _ _ _ | exact LR.bnd (by rw [l2]; simp [bndE, SV.bnd, SV.bndL]) (by rw [l6]; decide)) (by first | (rw [Blk.ren_own0 (by assumption)]; rfl) | rfl | (simp only [Blk.ren, renL_mapV]; rfl) | (rw [LR.ren (by rw [l2] <;> rfl) (by rw [l6] <;> rfl)]; rfl)) ?_)) ⟨by have := hκ.hm; (try dsimp only at this); (first | done | omega), fun i hi => by have := hκ.hm; (try dsimp only at this); (first | omega | (dsimp only; omega) | (rw [if_neg (by omega)]))⟩ ⟨by simp, rfl⟩
      · obtain rfl : k = x.ms.length := by omega
        rw [List.take_length] at hcp ⊢
        have q3 : ((x.ms.length : Int) < x.ms.length) = False := by first | (simp only [eq_iff_iff, iff_false]; first | assumption | omega) | (simp; omega)
        generalize chsM w free x.ms = rs at *
        refine hκ.runA 9 300 ?_
        simp (disch := omega) only [push_cast, simprocAttr, te, cm, t1, on, le, tk, idf, q1, q3]
        refine Sat.frz [1] 9 _ rfl (by first | (simp [lendPL, lendP, lendSlP, Heap.get]; done) | (simp only [lendPL, lendP, lendSlP, Heap.get, List.mem_singleton, List.mem_cons, List.not_mem_nil, or_false, or_true, true_or, Nat.reduceEqDiff, Nat.one_ne_zero, Nat.zero_ne_one, ↓reduceIte, and_true, true_and, List.length_map, List.length_append, List.length_cons, List.length_nil, List.length_replicate]; omega)) ?_
        simp only [lendL, lendS, lendSl, Heap.get, without, List.mem_singleton, List.mem_cons, List.not_mem_nil, or_false, or_true, true_or, List.drop_zero, List.take_length, List.take_succ_cons, List.take_zero, Nat.reduceAdd, Nat.reduceEqDiff, Nat.one_ne_zero, Nat.zero_ne_one, ↓reduceIte]
        rw [List.take_of_length_le (by simp)]
        refine hκ.run 300 ?_
        simp (disch := omega) only [push_cast, simprocAttr, te, cm, t1, on, le, tk, idf, q1, q3]
        refine Does.rep [Rws rs, .rd 1 []] (fun ν => RelL.keep (RelL.nilrd fun _ h => h)) ?_
        refine Does.ret hκ.hP hκ.hgl cM ⟨trivial, by first | (simp [SV.bnd, SV.bndL]; done) | (simp [SV.bnd, SV.bndL, ec_bnd]; done), by first | (simp [SV.bnd, SV.bndL]; done) | (simp [SV.bnd, SV.bndL, ec_bnd]; done) | assumption⟩ ?_
        refine hκ.run 300 ?_
        simp (disch := omega) only [push_cast, simprocAttr, te, cm, t1, on, le, tk, idf, q1, q3]
        refine hκ.ret _ _ _ _ _ _ trivial rfl ?_
        exact .ret (by simp [SV.bnd, SV.bndL])
end Go.Proofs.YtnjgmjcokcfmkaaDoor

/- What is picked from without an entity: the walk. No condition. -/
import Derived.Test.YtnjgmjcokcfmkaaDoorQr
namespace Go.Proofs.YtnjgmjcokcfmkaaDoor
open Go Go.Sy
set_option maxRecDepth 100000
set_option linter.unusedSimpArgs false
set_option linter.unusedVariables false
set_option maxHeartbeats 8000000

/-- The wishes of others. -/
def wW (w : List Wi) (G : List Int) : List Wi := w.filter fun y => !decide (y.v ∈ G)
theorem wW_snoc (w : List Wi) (y : Wi) (G : List Int) : wW (w ++ [y]) G = if y.v ∈ G then wW w G else wW w G ++ [y] := by
  rw [wW, wW, List.filter_append, List.filter_cons, List.filter_nil]
  by_cases h : y.v ∈ G
  · simp [h]
  · simp [h]
theorem none_ask : (fun _ : List Int => (none : Option SV)) = askF (fun _ => false) := by
  funext q
  match q with
  | [] => rfl
  | [d] => simp [askF]
  | _ :: _ :: _ => rfl
theorem without_ok (l : List En) (w : List Wi) (free n : Nat) (hl : ∀ x ∈ l, inE0 x) (hn : l.length < 2 ^ 40) (hn2 : w.length < 2 ^ 40) (hnl : n < l.length) : Con Tryd.prog gl0 (fnv 25) [Ak l w free, I n] 0 [] (Ret (Ak (l.eraseIdx n) (wW w (l.getD n default).ms) free)) := by
  refine Con.of Tryd.ok25 (nt := 65) (res := [.cell 4 27]) Tryd.mixed Tryd.func25 rfl rfl rfl rfl fun κ xc hκ => hκ.run 300 ?_
  simp (disch := omega) only [push_cast, simprocAttr]
  refine Sat.nilCell 2 6 56 27 [] [.v (.slice none 0 0), S free] rfl ?_
  refine Sat.nilCell 2 4 45 27 [.sl 4 6 0 0 0] [S free] rfl ?_
  rw [show (fun _ : List Int => (none : Option SV)) = askF (fun _ => false) from none_ask]
  refine Sat.less (Sat.loop (γ := Nat × Nat × Ask) (fun g => ([(20, I g.1), (19, I l.length), (18, Ens l), (6, .mp 3), (5, .ptr 2 0 0 0), (4, .ptr 1 0 0 0), (2, .ptr 0 0 0 0), (1, I n)],
    [(0, .own [Ens l, Ws w, S free] 27), (1, .own [nilS, nilS, S 0] 27), (2, .own [.sl 4 6 0 ((l.take g.1).eraseIdx n).length g.2.1, .sl 5 4 0 0 0, S free] 27), (3, .map false [.i64] (askF g.2.2)), (4, .row 6 g.2.1 56 (((l.take g.1).eraseIdx n).map eEn)), (5, .row 4 0 45 [])], 6))
    (fun g => l.length - g.1) (fun g => g.1 ≤ l.length ∧ ((l.take g.1).eraseIdx n).length ≤ g.2.1 ∧ ∀ c, g.2.2 c = (decide (n < g.1) && decide (c ∈ (l.getD n default).ms))) ?round (0, 0, fun _ => false) ⟨Nat.zero_le _, by simp, fun c => by simp⟩) (by repeat' (first | exact EnvSub.nil _ | exact HeapSub.nil _ | refine EnvSub.cons rfl ?_ | refine HeapSub.cons rfl ?_ | (refine EnvSub.cons (by simp [Env.get]; done) ?_) | (refine HeapSub.cons (by simp [Heap.get]; done) ?_))) (by repeat' (first | exact EnvSub.nil _ | exact HeapSub.nil _ | refine EnvSub.cons rfl ?_ | refine HeapSub.cons rfl ?_ | (refine EnvSub.cons (by simp [Env.get]; done) ?_) | (refine HeapSub.cons (by simp [Heap.get]; done) ?_)))
  case round =>
    rintro ⟨k, cap, A⟩ ⟨hk, hcap, hA⟩ ih
    dsimp only at hk hcap hA ih ⊢
    by_cases hkl : k < l.length
    · have q1 : ((k : Int) < l.length) = True := by first | (simp only [eq_iff_iff, iff_true]; first | assumption | omega) | (simp; omega)
      have e00 : (0 ≤ (k : Int)) = True := by first | (simp only [eq_iff_iff, iff_true]; first | assumption | omega) | (simp; omega)
      have gk : (List.map eEn l).getD k [] = eEn (l.getD k default) := getD_map _ _ _ hkl
      have hs : l.take (k + 1) = l.take k ++ [l.getD k default] := by
        rw [List.take_succ_eq_append_getElem hkl, List.getD, List.getElem?_eq_getElem hkl]; rfl
      have hz := fun cap A h1 h2 => ih (k + 1, cap, A) ⟨by dsimp only; omega, h1, h2⟩ (by dsimp only; omega)
      dsimp only at hz
      have hx := (hl _ (getD_mem' hkl)).2
      have hol : ((l.take k).eraseIdx n).length ≤ k := by
        have := List.length_eraseIdx_le (l.take k) n
        rw [List.length_take] at this; omega
      by_cases hkn : k = n
      · subst hkn
        rw [hs, List.eraseIdx_append_of_length_le (by rw [List.length_take]; omega), show k - (l.take k).length = 0 by rw [List.length_take]; omega, List.eraseIdx_cons_zero, List.append_nil] at hz
        rw [List.eraseIdx_of_length_le (by rw [List.length_take]; omega)] at hcap hol ⊢
        clear ih hs
        generalize l.getD k default = x at *
        generalize l.take k = out at *
        have te : takeN (eEn x) 6 = some (eEn x) := rfl
        have cm : cut (eEn x) 0 1 = some [Is x.ms] := rfl
        have t1 : takeN (eEn x) 1 = some [Is x.ms] := rfl
        have oz : over [.v (.slice none 0 0), .v (.int .u64 0), .v (.int .u64 0), .v (.int .u64 0), .v (.int .u64 0), Bo false] (eEn x) = some (eEn x) := rfl
        have on : ones (eEn x) := ⟨trivial, rfl, rfl, rfl, rfl, rfl, trivial⟩
        have le : (eEn x).length = 6 := rfl
        have tk : List.take 6 (eEn x) = eEn x := rfl
        refine hκ.runD 300 ?_
        simp (disch := omega) only [push_cast, simprocAttr, q1, gk, te, cm, oz, on, le, tk, t1, e00]
        refine Sat.less (Sat.loop (γ := Nat × Ask) (fun g => ([(31, I g.1), (30, I x.ms.length), (29, Is x.ms), (20, I k), (19, I l.length), (18, Ens l), (6, .mp 3), (5, .ptr 2 0 0 0), (4, .ptr 1 0 0 0), (2, .ptr 0 0 0 0), (1, I k)],
          [(0, .own [Ens l, Ws w, S free] 27), (1, .own [nilS, nilS, S 0] 27), (2, .own [.sl 4 6 0 out.length cap, .sl 5 4 0 0 0, S free] 27), (3, .map false [.i64] (askF g.2)), (4, .row 6 cap 56 (out.map eEn)), (5, .row 4 0 45 [])], 7))
          (fun g => x.ms.length - g.1) (fun g => g.1 ≤ x.ms.length ∧ ∀ c, g.2 c = decide (c ∈ x.ms.take g.1)) ?inner (0, A) ⟨Nat.zero_le _, fun c => by simpa using hA c⟩) (by repeat' (first | exact EnvSub.nil _ | exact HeapSub.nil _ | refine EnvSub.cons rfl ?_ | refine HeapSub.cons rfl ?_ | (refine EnvSub.cons (by simp [Env.get]; done) ?_) | (refine HeapSub.cons (by simp [Heap.get]; done) ?_))) (by repeat' (first | exact EnvSub.nil _ | exact HeapSub.nil _ | refine EnvSub.cons rfl ?_ | refine HeapSub.cons rfl ?_ | (refine EnvSub.cons (by simp [Env.get]; done) ?_) | (refine HeapSub.cons (by simp [Heap.get]; done) ?_)))
        case inner =>
          rintro ⟨j, B⟩ ⟨hj, hB⟩ ih2
          dsimp only at hj hB ih2 ⊢
          by_cases hjl : j < x.ms.length
          · have q2 : ((j : Int) < x.ms.length) = True := by first | (simp only [eq_iff_iff, iff_true]; first | assumption | omega) | (simp; omega)
            have e0 : (0 ≤ (j : Int)) = True := by first | (simp only [eq_iff_iff, iff_true]; first | assumption | omega) | (simp; omega)
            have gj : (List.map (eI .i64) x.ms).getD j [] = eI .i64 (x.ms.getD j default) := getD_map _ _ _ hjl
            have hsj : x.ms.take (j + 1) = x.ms.take j ++ [x.ms.getD j default] := by
              rw [List.take_succ_eq_append_getElem hjl, List.getD, List.getElem?_eq_getElem hjl]; rfl
            have hz2 := ih2 (j + 1, setA B (x.ms.getD j default)) ⟨by dsimp only; omega, fun c => by
              dsimp only
              rw [hsj, setA, hB]
              by_cases e : c = x.ms.getD j default
              · simp [e]
              · rw [if_neg e]; exact decide_eq_decide.2 (by rw [List.mem_append, List.mem_singleton]; exact ⟨Or.inl, fun h => h.elim id fun h => absurd h e⟩)⟩ (by dsimp only; omega)
            dsimp only at hz2
            clear ih2 hz
            generalize x.ms.getD j default = v at *
            refine hκ.run 300 ?_
            simp (disch := omega) only [push_cast, simprocAttr, q1, q2, gj, e0]
            rw [askF_set]
            exact hz2.less (by repeat' (first | exact EnvSub.nil _ | exact HeapSub.nil _ | refine EnvSub.cons rfl ?_ | refine HeapSub.cons rfl ?_ | (refine EnvSub.cons (by simp [Env.get]; done) ?_) | (refine HeapSub.cons (by simp [Heap.get]; done) ?_))) (by repeat' (first | exact EnvSub.nil _ | exact HeapSub.nil _ | refine EnvSub.cons rfl ?_ | refine HeapSub.cons rfl ?_ | (refine EnvSub.cons (by simp [Env.get]; done) ?_) | (refine HeapSub.cons (by simp [Heap.get]; done) ?_)))
          · obtain rfl : j = x.ms.length := by omega
            rw [List.take_length] at hB
            have q2 : ((x.ms.length : Int) < x.ms.length) = False := by first | (simp only [eq_iff_iff, iff_false]; first | assumption | omega) | (simp; omega)
            have hy := hz cap B hcap (fun c => by rw [hB, decide_eq_true (Nat.lt_succ_self k), Bool.true_and])
            refine hκ.run 300 ?_
            simp (disch := omega) only [push_cast, simprocAttr, q2]
            refine Sat.via (fun i => i) (hy) (by intro i j; (repeat (first | omega | split))) (by repeat' (first | exact EnvVia.nil | refine EnvVia.cons (by first | trivial | decide | (simp [SV.bnd, SV.bndL]; done)) rfl ?_)) (by repeat' (first | exact HeapVia.nil | refine HeapVia.cons (by decide) (by first | trivial | exact Blk.bnd_own0 (by assumption) | (simp [Blk.bnd, SV.bnd, SV.bndL]; done) | exact bndL_mapV _ _ _ | exact LR.bnd (by rw [l2]; simp [bndE, SV.bnd, SV.bndL]) (by rw [l6]; decide)) (by first | (rw [Blk.ren_own0 (by assumption)]; rfl) | rfl | (simp only [Blk.ren, renL_mapV]; rfl) | (rw [LR.ren (by rw [l2] <;> rfl) (by rw [l6] <;> rfl)]; rfl)) ?_)) ⟨by have := hκ.hm; (try dsimp only at this); (first | done | omega), fun i hi => by have := hκ.hm; (try dsimp only at this); (first | omega | (dsimp only; omega) | (rw [if_neg (by omega)]))⟩ ⟨by simp, rfl⟩
      · have ho : (l.take k ++ [l.getD k default]).eraseIdx n = (l.take k).eraseIdx n ++ [l.getD k default] := by
          by_cases h : n < k
          · exact List.eraseIdx_append_of_lt_length (by rw [List.length_take]; omega) _
          · rw [List.eraseIdx_of_length_le (by rw [List.length_append, List.length_take]; simp only [List.length_singleton]; omega), List.eraseIdx_of_length_le (by rw [List.length_take]; omega)]
        have hA2 : ∀ c, A c = (decide (n < k + 1) && decide (c ∈ (l.getD n default).ms)) := fun c => by
          rw [hA]; congr 1; exact decide_eq_decide.2 (by omega)
        rw [hs, ho] at hz
        have hz := fun cap h => hz cap A h hA2
        clear ih hs ho hA hA2
        generalize l.getD k default = x at *
        generalize (l.take k).eraseIdx n = out at *
        have te : takeN (eEn x) 6 = some (eEn x) := rfl
        have cm : cut (eEn x) 0 1 = some [Is x.ms] := rfl
        have t1 : takeN (eEn x) 1 = some [Is x.ms] := rfl
        have oz : over [.v (.slice none 0 0), .v (.int .u64 0), .v (.int .u64 0), .v (.int .u64 0), .v (.int .u64 0), Bo false] (eEn x) = some (eEn x) := rfl
        have on : ones (eEn x) := ⟨trivial, rfl, rfl, rfl, rfl, rfl, trivial⟩
        have le : (eEn x).length = 6 := rfl
        have tk : List.take 6 (eEn x) = eEn x := rfl
        have idf : idFrees (eEn x) = true := rfl
        have et : List.take out.length (List.map eEn out) = List.map eEn out := List.take_of_length_le (by simp)
        have q3 : ((k : Int) = n) = False := by first | (simp only [eq_iff_iff, iff_false]; first | assumption | omega) | (simp; omega)
        refine hκ.runD 300 ?_
        simp (disch := omega) only [push_cast, simprocAttr, q1, gk, te, cm, oz, on, le, tk, t1, e00, q3, et, idf]
        refine ⟨⟨Nat.le_refl _, by omega, by omega⟩, fun _ => ?_⟩
        intro i
        refine hκ.run 300 ?_
        simp (disch := omega) only [push_cast, simprocAttr, q1, gk, te, cm, oz, on, le, tk, t1, e00, q3, et, idf]
        have hy := hz (out.length + 1 + i) (by simp)
        simp only [List.length_append, List.length_cons, List.length_nil, List.length_singleton, List.length_map, List.length_set, List.length_replicate, Nat.zero_add, Nat.add_zero, Int.natCast_add, Int.natCast_one, Int.ofNat_eq_natCast, List.map_append, List.map_cons, List.map_nil, List.take_length, eI, eB] at hy ⊢
        refine Sat.via (fun i => if i = 4 then 8 else i) (hy) (by intro i j; (repeat (first | omega | split))) (by repeat' (first | exact EnvVia.nil | refine EnvVia.cons (by first | trivial | decide | (simp [SV.bnd, SV.bndL]; done)) rfl ?_)) (by repeat' (first | exact HeapVia.nil | refine HeapVia.cons (by decide) (by first | trivial | exact Blk.bnd_own0 (by assumption) | (simp [Blk.bnd, SV.bnd, SV.bndL]; done) | exact bndL_mapV _ _ _ | exact LR.bnd (by rw [l2]; simp [bndE, SV.bnd, SV.bndL]) (by rw [l6]; decide)) (by first | (rw [Blk.ren_own0 (by assumption)]; rfl) | rfl | (simp only [Blk.ren, renL_mapV]; rfl) | (rw [LR.ren (by rw [l2] <;> rfl) (by rw [l6] <;> rfl)]; rfl)) ?_)) ⟨by have := hκ.hm; (try dsimp only at this); (first | done | omega), fun i hi => by have := hκ.hm; (try dsimp only at this); (first | omega | (dsimp only; omega) | (rw [if_neg (by omega)]))⟩ ⟨by simp, rfl⟩
    · obtain rfl : k = l.length := by omega
      rw [List.take_length] at hcap ⊢
      have hA : ∀ c, A c = decide (c ∈ (l.getD n default).ms) := fun c => by rw [hA, decide_eq_true hnl, Bool.true_and]
      have q1 : ((l.length : Int) < l.length) = False := by first | (simp only [eq_iff_iff, iff_false]; first | assumption | omega) | (simp; omega)
      have hol : (l.eraseIdx n).length < 2 ^ 40 := by
        have := List.length_eraseIdx_le l n; omega
      generalize (l.getD n default).ms = G at *
      generalize l.eraseIdx n = out at *
      refine hκ.run 300 ?_
      simp (disch := omega) only [push_cast, simprocAttr, q1]
      refine Sat.less (Sat.loop (γ := Nat × Nat) (fun g => ([(48, I g.1), (47, I w.length), (46, Ws w), (6, .mp 3), (5, .ptr 2 0 0 0), (4, .ptr 1 0 0 0)],
        [(1, .own [nilS, nilS, S 0] 27), (2, .own [.sl 4 6 0 out.length cap, .sl 5 4 0 (wW (w.take g.1) G).length g.2, S free] 27), (3, .map false [.i64] (askF A)), (4, .row 6 cap 56 (out.map eEn)), (5, .row 4 g.2 45 ((wW (w.take g.1) G).map eW))], 6))
        (fun g => w.length - g.1) (fun g => g.1 ≤ w.length ∧ (wW (w.take g.1) G).length ≤ g.2) ?round2 (0, 0) ⟨Nat.zero_le _, by simp [wW]⟩) (by repeat' (first | exact EnvSub.nil _ | exact HeapSub.nil _ | refine EnvSub.cons rfl ?_ | refine HeapSub.cons rfl ?_ | (refine EnvSub.cons (by simp [Env.get]; done) ?_) | (refine HeapSub.cons (by simp [Heap.get]; done) ?_))) (by repeat' (first | exact EnvSub.nil _ | exact HeapSub.nil _ | refine EnvSub.cons rfl ?_ | refine HeapSub.cons rfl ?_ | (refine EnvSub.cons (by simp [Env.get]; done) ?_) | (refine HeapSub.cons (by simp [Heap.get]; done) ?_)))
      case round2 =>
        rintro ⟨k, cp⟩ ⟨hk, hcp⟩ ih
        dsimp only at hk hcp ih ⊢
        by_cases hkl : k < w.length
        · have q1 : ((k : Int) < w.length) = True := by first | (simp only [eq_iff_iff, iff_true]; first | assumption | omega) | (simp; omega)
          have e00 : (0 ≤ (k : Int)) = True := by first | (simp only [eq_iff_iff, iff_true]; first | assumption | omega) | (simp; omega)
          have gk : (List.map eW w).getD k [] = eW (w.getD k default) := getD_map _ _ _ hkl
          have hs : w.take (k + 1) = w.take k ++ [w.getD k default] := by
            rw [List.take_succ_eq_append_getElem hkl, List.getD, List.getElem?_eq_getElem hkl]; rfl
          have hz := fun cp h => ih (k + 1, cp) ⟨by dsimp only; omega, h⟩ (by dsimp only; omega)
          dsimp only at hz
          rw [hs, wW_snoc] at hz
          have hpl : (wW (w.take k) G).length ≤ k := by
            have := List.length_filter_le (fun y : Wi => !decide (y.v ∈ G)) (w.take k)
            rw [List.length_take] at this
            rw [wW]; omega
          clear ih hs
          generalize w.getD k default = y at *
          generalize wW (w.take k) G = pre at *
          rw [eW] at gk
          by_cases hy : y.v ∈ G
          · rw [if_pos hy] at hz
            have hy2 := hz cp hcp
            have la : askF A [y.v] = some (Bo true) := by simp [askF, hA, hy]
            refine hκ.run 300 ?_
            simp (disch := omega) only [push_cast, simprocAttr, q1, gk, e00, la]
            (repeat (refine ⟨by first | omega | (refine ⟨?_, ?_⟩ <;> omega) | trivial | (simp; done) | decide +kernel, fun _ => ?_⟩))
            refine Sat.via (fun i => i) (hy2) (by intro i j; (repeat (first | omega | split))) (by repeat' (first | exact EnvVia.nil | refine EnvVia.cons (by first | trivial | decide | (simp [SV.bnd, SV.bndL]; done)) rfl ?_)) (by repeat' (first | exact HeapVia.nil | refine HeapVia.cons (by decide) (by first | trivial | exact Blk.bnd_own0 (by assumption) | (simp [Blk.bnd, SV.bnd, SV.bndL]; done) | exact bndL_mapV _ _ _ | exact LR.bnd (by rw [l2]; simp [bndE, SV.bnd, SV.bndL]) (by rw [l6]; decide)) (by first | (rw [Blk.ren_own0 (by assumption)]; rfl) | rfl | (simp only [Blk.ren, renL_mapV]; rfl) | (rw [LR.ren (by rw [l2] <;> rfl) (by rw [l6] <;> rfl)]; rfl)) ?_)) ⟨by have := hκ.hm; (try dsimp only at this); (first | done | omega), fun i hi => by have := hκ.hm; (try dsimp only at this); (first | omega | (dsimp only; omega) | (rw [if_neg (by omega)]))⟩ ⟨by simp, rfl⟩
          · rw [if_neg hy] at hz
            have la : askF A [y.v] = none := by simp [askF, hA, hy]
            have et : List.take pre.length (List.map eW pre) = List.map eW pre := List.take_of_length_le (by simp)
            refine hκ.run 300 ?_
            simp (disch := omega) only [push_cast, simprocAttr, q1, gk, e00, la, et]
            refine ⟨⟨Nat.le_refl _, by omega, by omega⟩, fun _ => ?_⟩
            intro i
            refine hκ.run 300 ?_
            simp (disch := omega) only [push_cast, simprocAttr, q1, gk, e00, la, et]
            have hy2 := hz (pre.length + 1 + i) (by simp)
            simp only [List.length_append, List.length_cons, List.length_nil, List.length_singleton, List.length_map, List.length_set, List.length_replicate, Nat.zero_add, Nat.add_zero, Int.natCast_add, Int.natCast_one, Int.ofNat_eq_natCast, List.map_append, List.map_cons, List.map_nil, List.take_length, eI, eB] at hy2 ⊢
            rw [eW] at hy2
            refine Sat.via (fun i => if i = 5 then 8 else i) (hy2) (by intro i j; (repeat (first | omega | split))) (by repeat' (first | exact EnvVia.nil | refine EnvVia.cons (by first | trivial | decide | (simp [SV.bnd, SV.bndL]; done)) rfl ?_)) (by repeat' (first | exact HeapVia.nil | refine HeapVia.cons (by decide) (by first | trivial | exact Blk.bnd_own0 (by assumption) | (simp [Blk.bnd, SV.bnd, SV.bndL]; done) | exact bndL_mapV _ _ _ | exact LR.bnd (by rw [l2]; simp [bndE, SV.bnd, SV.bndL]) (by rw [l6]; decide)) (by first | (rw [Blk.ren_own0 (by assumption)]; rfl) | rfl | (simp only [Blk.ren, renL_mapV]; rfl) | (rw [LR.ren (by rw [l2] <;> rfl) (by rw [l6] <;> rfl)]; rfl)) ?_)) ⟨by have := hκ.hm; (try dsimp only at this); (first | done | omega), fun i hi => by have := hκ.hm; (try dsimp only at this); (first | omega | (dsimp only; omega) | (rw [if_neg (by omega)]))⟩ ⟨by simp, rfl⟩
        · obtain rfl : k = w.length := by omega
          rw [List.take_length] at hcp ⊢
          have q1 : ((w.length : Int) < w.length) = False := by first | (simp only [eq_iff_iff, iff_false]; first | assumption | omega) | (simp; omega)
          generalize wW w G = ow at *
          refine hκ.run 300 ?_
          simp (disch := omega) only [push_cast, simprocAttr, q1]
          refine hκ.ret _ _ _ _ _ _ trivial rfl ?_
          have et1 : List.take out.length (List.map eEn out) = List.map eEn out := List.take_of_length_le (by simp)
          have et2 : List.take ow.length (List.map eW ow) = List.map eW ow := List.take_of_length_le (by simp)
          refine Post.frz [4, 5] (by first | (simp [lendPL, lendP, lendSlP, dropL, Heap.get, Heap.drop, resV]; done) | (simp [lendPL, lendP, lendSlP, dropL, Heap.get, Heap.drop, resV]; omega) | (simp [lendPL, lendP, lendSlP, dropL, Heap.get, Heap.drop, resV, -List.length_eq_zero_iff]; omega)) ?_
          simp only [resV, lendL, lendS, lendSl, dropL, Heap.drop, Heap.get, List.mem_singleton, List.mem_cons, List.not_mem_nil, or_false, or_true, true_or, List.drop_zero, Nat.reduceEqDiff, Nat.one_ne_zero, Nat.zero_ne_one, ↓reduceIte, et1, et2]
          exact .ret (by simp [SV.bnd, SV.bndL])
end Go.Proofs.YtnjgmjcokcfmkaaDoor

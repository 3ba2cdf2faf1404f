/- Walks of gang: Match. No condition. -/
import Derived.Test.YtnjgmjcokcfmkaaDoorGw
namespace Go.Proofs.YtnjgmjcokcfmkaaDoor
open Go Go.Sy
set_option maxRecDepth 100000
set_option linter.unusedSimpArgs false
set_option linter.unusedVariables false
set_option maxHeartbeats 4000000

def sgl (t : List Int) : List (List Int) := t.map fun c => [c]
theorem sgl_snoc (t : List Int) (c : Int) (rest : List (List Int)) : sgl (t ++ [c]) ++ rest = sgl t ++ [c] :: rest := by simp [sgl]
theorem sgl_len (t : List Int) : (sgl t).length = t.length := by simp [sgl]
def fp (t : List Int) (rest : List (List Int)) (c : Int) : Bool := decide (c ∉ t) && matchB (sgl (t ++ [c]) ++ rest)
theorem gm_cons (t : List Int) (r : List Int) (rest : List (List Int)) : gm t (r :: rest) = match r.find? (fp t rest) with
    | some c => gm (t ++ [c]) rest
    | none => gm t rest := rfl
theorem PM_find {t : List Int} {r : List Int} {rest : List (List Int)} (ht : ∀ c ∈ t, cpu8 c) (hr : okR (r :: rest)) (h : PM (sgl t ++ r :: rest)) : ∃ c, r.find? (fp t rest) = some c := by
  obtain ⟨c, hc, hp⟩ := PM_take h
  have hB : matchB (sgl (t ++ [c]) ++ rest) = true := (matchB_iff (okR_t (fun d hd => by
    rcases List.mem_append.1 hd with h | h
    · exact ht d h
    · rw [List.mem_singleton.1 h]; exact hr r (by simp) c hc) (fun x hx => hr x (by simp [hx])))).2 hp
  cases hf : r.find? (fp t rest) with
  | some c => exact ⟨c, rfl⟩
  | none =>
    have := List.find?_eq_none.1 hf c hc
    exact absurd (by rw [fp, hB]; simp [PM_nodup hp]) this
theorem contains_okI (l : List Int) (n : Int) (hn : l.length < 2 ^ 62) : Con Tryd.prog gl0 (fnv 81) [Is l, I n] 0 [] (Ret (Bo (decide (n ∈ l)))) := by
  refine Con.of Tryd.ok81 (nt := 9) (res := [.tmp 4]) Tryd.mixed Tryd.func81 rfl rfl rfl rfl fun κ xc hκ => hκ.run 300 ?_
  simp (disch := omega) only [push_cast, simprocAttr]
  refine Does.inl hκ.hP hκ.hgl Tryd.ok93 (nt := 19) (res := [.tmp 4]) Tryd.mixed Tryd.func93 rfl rfl rfl rfl fun κ_h1 x_h1 h1 => h1.run 300 ?_
  simp (disch := omega) only [push_cast, simprocAttr]
  refine Sat.less (Sat.loop (γ := Nat) (fun k => ([(8, I k), (7, I l.length), (0, Is l), (1, I n)], [], 0)) (fun k => l.length - k) (fun k => k ≤ l.length ∧ n ∉ l.take k) ?round 0 ⟨Nat.zero_le _, by simp⟩) (by repeat' (first | exact EnvSub.nil _ | exact HeapSub.nil _ | refine EnvSub.cons rfl ?_ | refine HeapSub.cons rfl ?_ | (refine EnvSub.cons (by simp [Env.get]; done) ?_) | (refine HeapSub.cons (by simp [Heap.get]; done) ?_))) (by repeat' (first | exact EnvSub.nil _ | exact HeapSub.nil _ | refine EnvSub.cons rfl ?_ | refine HeapSub.cons rfl ?_ | (refine EnvSub.cons (by simp [Env.get]; done) ?_) | (refine HeapSub.cons (by simp [Heap.get]; done) ?_)))
  case round =>
    rintro k ⟨hk, hl⟩ ih
    dsimp only at hk hl ih ⊢
    by_cases hkl : k < l.length
    · have q1 : ((k : Int) < l.length) = True := by first | (simp only [eq_iff_iff, iff_true]; first | assumption | omega) | (simp; omega)
      have gk : (List.map (eI .i64) l).getD k [] = eI .i64 (l.getD k default) := getD_map _ _ _ hkl
      have hs : l.take (k + 1) = l.take k ++ [l.getD k default] := by
        rw [List.take_succ_eq_append_getElem hkl, List.getD, List.getElem?_eq_getElem hkl]; rfl
      have hm := getD_mem' hkl
      have hz := fun h => ih (k + 1) ⟨by omega, h⟩ (by omega)
      rw [hs] at hz
      clear ih
      generalize l.getD k default = x at *
      by_cases hx : n = x
      · rw [decide_eq_true (hx ▸ hm)] at hκ
        refine h1.run 300 ?_
        simp (disch := omega) only [push_cast, simprocAttr, q1, gk, hx]
        (repeat (refine ⟨by first | omega | (refine ⟨?_, ?_⟩ <;> omega) | trivial | (simp; done) | decide +kernel, fun _ => ?_⟩))
        have q2 : ((0 : Int) ≤ k) = True := by first | (simp only [eq_iff_iff, iff_true]; first | assumption | omega) | (simp; omega)
        refine h1.ret _ _ _ _ _ _ trivial rfl ?_
        refine hκ.run 300 ?_
        simp (disch := omega) only [push_cast, simprocAttr, q2, q1, gk, hx]
        refine hκ.ret _ _ _ _ _ _ trivial rfl ?_
        exact .ret trivial
      · have hz := hz (fun h => by
          rcases List.mem_append.1 h with h | h
          · exact hl h
          · exact hx (List.mem_singleton.1 h))
        refine h1.run 300 ?_
        simp (disch := omega) only [push_cast, simprocAttr, q1, gk, hx]
        (repeat (refine ⟨by first | omega | (refine ⟨?_, ?_⟩ <;> omega) | trivial | (simp; done) | decide +kernel, fun _ => ?_⟩))
        exact hz.less (by repeat' (first | exact EnvSub.nil _ | exact HeapSub.nil _ | refine EnvSub.cons rfl ?_ | refine HeapSub.cons rfl ?_ | (refine EnvSub.cons (by simp [Env.get]; done) ?_) | (refine HeapSub.cons (by simp [Heap.get]; done) ?_))) (by repeat' (first | exact EnvSub.nil _ | exact HeapSub.nil _ | refine EnvSub.cons rfl ?_ | refine HeapSub.cons rfl ?_ | (refine EnvSub.cons (by simp [Env.get]; done) ?_) | (refine HeapSub.cons (by simp [Heap.get]; done) ?_)))
    · obtain rfl : k = l.length := by omega
      rw [List.take_length] at hl
      rw [decide_eq_false hl] at hκ
      have q1 : ((l.length : Int) < l.length) = False := by first | (simp only [eq_iff_iff, iff_false]; first | assumption | omega) | (simp; omega)
      refine h1.run 300 ?_
      simp (disch := omega) only [push_cast, simprocAttr, q1]
      refine h1.ret _ _ _ _ _ _ trivial rfl ?_
      refine hκ.run 300 ?_
      simp (disch := omega) only [push_cast, simprocAttr, q1]
      refine hκ.ret _ _ _ _ _ _ trivial rfl ?_
      exact .ret trivial
theorem clone_okR (rows : List (List Int)) (h0 : 0 < rows.length) (hn : rows.length < 2 ^ 40) : Con Tryd.prog gl0 (fnv 107) [Rws rows] 0 [] (RetRow 31 1 (rows.map eRw)) := by
  have e : List.take rows.length (List.map eRw rows) = List.map eRw rows := List.take_of_length_le (by simp)
  have hne : ¬ rows.length = 0 := by omega
  refine Con.of Tryd.ok107 (nt := 8) (res := [.tmp 2]) Tryd.mixed Tryd.func107 rfl rfl rfl rfl fun κ xc hκ => hκ.run 300 ?_
  simp (disch := omega) only [push_cast, simprocAttr, e, hne]
  (repeat (refine ⟨by first | omega | (refine ⟨?_, ?_⟩ <;> omega) | trivial | (simp; done) | decide +kernel, fun _ => ?_⟩))
  intro c
  refine hκ.ret _ _ _ _ _ _ trivial rfl ?_
  exact Post.row rfl (by simp)
theorem match_ok (rows : List (List Int)) (hv : ∀ r ∈ rows, okrow r) (hn : rows.length ≤ 8) (hn0 : 0 < rows.length) (hl : ∀ r ∈ rows, r.length < 2 ^ 40) : Con Tryd.prog gl0 (fnv 85) [Rws rows] 0 [] (Ret (fmV (fm [] rows))) := by
  have hok : okR rows := fun r hr => (hv r hr).1
  have c1 := choices_ok rows hv (by omega) (fun r hr => by have := hl r hr; omega)
  rw [decide_eq_true hn] at c1
  have c2 := matching_ok rows hok (by omega) hl
  rw [match_eq hok]
  refine Con.of Tryd.ok85 (nt := 50) (res := [.tmp 2, .tmp 3]) Tryd.mixed Tryd.func85 rfl rfl rfl rfl fun κ xc hκ => hκ.run 300 ?_
  simp (disch := omega) only [push_cast, simprocAttr]
  refine Does.ret hκ.hP hκ.hgl c1 ⟨trivial, by first | (simp [SV.bnd, SV.bndL]; done) | (simp [SV.bnd, SV.bndL, ec_bnd]; done), by first | (simp [SV.bnd, SV.bndL]; done) | (simp [SV.bnd, SV.bndL, ec_bnd]; done) | assumption⟩ ?_
  refine hκ.run 300 ?_
  simp (disch := omega) only [push_cast, simprocAttr]
  refine Does.ret hκ.hP hκ.hgl c2 ⟨trivial, by first | (simp [SV.bnd, SV.bndL]; done) | (simp [SV.bnd, SV.bndL, ec_bnd]; done), by first | (simp [SV.bnd, SV.bndL]; done) | (simp [SV.bnd, SV.bndL, ec_bnd]; done) | assumption⟩ ?_
  cases hm : matchB rows
  · rw [hm, if_neg (by decide)] at hκ
    refine hκ.run 300 ?_
    simp (disch := omega) only [push_cast, simprocAttr]
    refine Sat.nilRd 2 1 rfl ?_
    refine hκ.ret _ _ _ _ _ _ trivial rfl ?_
    exact .ret (by simp [SV.bnd, SV.bndL])
  rw [hm, if_pos rfl] at hκ
  have hPM := (matchB_iff hok).1 hm
  have cc := clone_okR rows hn0 (by omega)
  refine hκ.run 300 ?_
  simp (disch := omega) only [push_cast, simprocAttr]
  refine Does.row hκ.hP hκ.hgl cc ⟨trivial, by simp [SV.bnd, SV.bndL]⟩ fun cap0 hcap0 => ?_
  rw [List.length_map] at hcap0 ⊢
  refine hκ.runA 5 300 ?_
  simp (disch := omega) only [push_cast, simprocAttr]
  refine Sat.nilRow 5 1 3 rfl ?_
  refine hκ.run 300 ?_
  simp (disch := omega) only [push_cast, simprocAttr]
  refine Sat.less (Sat.loop (γ := Nat × List Int × Nat) (fun g => ([(22, I g.1), (21, I rows.length), (20, Rws rows), (5, .sl 1 1 0 g.2.1.length g.2.2), (4, .sl 0 1 0 rows.length cap0)], [(1, .row 1 g.2.2 3 (g.2.1.map (eI .i64))), (0, .row 1 cap0 31 ((sgl g.2.1 ++ rows.drop g.1).map eRw))], 2)) (fun g => rows.length - g.1)
    (fun g => g.1 ≤ rows.length ∧ g.2.1.length = g.1 ∧ g.2.1.length ≤ g.2.2 ∧ (∀ c ∈ g.2.1, cpu8 c) ∧ PM (sgl g.2.1 ++ rows.drop g.1) ∧ gm g.2.1 (rows.drop g.1) = gm [] rows) ?round (0, [], 0) ⟨Nat.zero_le _, rfl, Nat.le_refl _, (fun c hc => nomatch hc), hPM, rfl⟩) (by repeat' (first | exact EnvSub.nil _ | exact HeapSub.nil _ | refine EnvSub.cons rfl ?_ | refine HeapSub.cons rfl ?_ | (refine EnvSub.cons (by simp [Env.get]; done) ?_) | (refine HeapSub.cons (by simp [Heap.get]; done) ?_))) (by repeat' (first | exact EnvSub.nil _ | exact HeapSub.nil _ | refine EnvSub.cons rfl ?_ | refine HeapSub.cons rfl ?_ | (refine EnvSub.cons (by simp [Env.get]; done) ?_) | (refine HeapSub.cons (by simp [Heap.get]; done) ?_)))
  case round =>
    rintro ⟨k, t, cp⟩ ⟨hk, htl, hcp, ht8, hP, hg⟩ ih
    dsimp only at hk htl hcp ht8 hP hg ih ⊢
    have et : List.take t.length (List.map (eI .i64) t) = List.map (eI .i64) t := List.take_of_length_le (by simp)
    by_cases hkl : k < rows.length
    · have q1 : ((k : Int) < rows.length) = True := by first | (simp only [eq_iff_iff, iff_true]; first | assumption | omega) | (simp; omega)
      have gk : (List.map eRw rows).getD k [] = eRw (rows.getD k default) := getD_map _ _ _ hkl
      have hd : rows.drop k = rows.getD k default :: rows.drop (k + 1) := by
        rw [List.drop_eq_getElem_cons hkl, List.getD, List.getElem?_eq_getElem hkl]; rfl
      have hr8 := hok _ (getD_mem' hkl)
      have hrl := hl _ (getD_mem' hkl)
      have hrest : okR (rows.drop (k + 1)) := fun r hr => hok r (List.mem_of_mem_drop hr)
      have hrestl : ∀ r ∈ rows.drop (k + 1), r.length < 2 ^ 40 := fun r hr => hl r (List.mem_of_mem_drop hr)
      have hrl2 : (rows.drop (k + 1)).length = rows.length - (k + 1) := List.length_drop
      rw [hd] at hP hg ⊢
      have hokd : okR (rows.getD k default :: rows.drop (k + 1)) := fun r hr => by
        rcases List.mem_cons.1 hr with rfl | hr
        · exact hr8
        · exact hrest r hr
      obtain ⟨c0, hf⟩ := PM_find ht8 hokd hP
      rw [gm_cons, hf] at hg
      have hc0 : c0 ∈ rows.getD k default := List.mem_of_find?_eq_some hf
      have hz := fun cp h => ih (k + 1, t ++ [c0], cp) ⟨by omega, by simp [htl], h, fun d hd => by
          rcases List.mem_append.1 hd with h | h
          · exact ht8 d h
          · rw [List.mem_singleton.1 h]; exact hr8 c0 hc0, by
          have hp := List.find?_some hf
          rw [fp, Bool.and_eq_true] at hp
          exact (matchB_iff (okR_t (fun d hd => by
            rcases List.mem_append.1 hd with h | h
            · exact ht8 d h
            · rw [List.mem_singleton.1 h]; exact hr8 c0 hc0) hrest)).1 hp.2, hg⟩ (by dsimp only; omega)
      dsimp only at hz
      rw [sgl_snoc] at hz
      clear ih hP hg hd hokd
      generalize rows.getD k default = row at *
      generalize rows.drop (k + 1) = rest at *
      rw [eRw] at gk
      refine hκ.run 300 ?_
      simp (disch := omega) only [push_cast, simprocAttr, q1, gk]
      (repeat (refine ⟨by first | omega | (refine ⟨?_, ?_⟩ <;> omega) | trivial | (simp; done) | decide +kernel, fun _ => ?_⟩))
      refine Sat.less (Sat.loop (γ := Nat × List Int) (fun g => ([(29, I g.1), (28, I row.length), (27, Is row), (6, I k), (22, I k), (21, I rows.length), (20, Rws rows), (5, .sl 1 1 0 t.length cp), (4, .sl 0 1 0 rows.length cap0)], [(1, .row 1 cp 3 (t.map (eI .i64))), (0, .row 1 cap0 31 ((sgl t ++ g.2 :: rest).map eRw))], 2)) (fun g => row.length - g.1)
        (fun g => g.1 ≤ row.length ∧ (row.drop g.1).find? (fp t rest) = some c0) ?inner (0, row) ⟨Nat.zero_le _, hf⟩) (by repeat' (first | exact EnvSub.nil _ | exact HeapSub.nil _ | refine EnvSub.cons rfl ?_ | refine HeapSub.cons rfl ?_ | (refine EnvSub.cons (by simp [Env.get]; done) ?_) | (refine HeapSub.cons (by simp [Heap.get]; done) ?_))) (by repeat' (first | exact EnvSub.nil _ | exact HeapSub.nil _ | refine EnvSub.cons rfl ?_ | refine HeapSub.cons rfl ?_ | (refine EnvSub.cons (by simp [Env.get]; done) ?_) | (refine HeapSub.cons (by simp [Heap.get]; done) ?_)))
      case inner =>
        rintro ⟨j, x⟩ ⟨hj, hfj⟩ ih2
        dsimp only at hj hfj ih2 ⊢
        by_cases hjl : j < row.length
        · have q2 : ((j : Int) < row.length) = True := by first | (simp only [eq_iff_iff, iff_true]; first | assumption | omega) | (simp; omega)
          have gj : (List.map (eI .i64) row).getD j [] = eI .i64 (row.getD j default) := getD_map _ _ _ hjl
          have hdj : row.drop j = row.getD j default :: row.drop (j + 1) := by
            rw [List.drop_eq_getElem_cons hjl, List.getD, List.getElem?_eq_getElem hjl]; rfl
          rw [hdj, List.find?_cons] at hfj
          have hc8 := hr8 _ (getD_mem' hjl)
          have hy := fun x h => ih2 (j + 1, x) ⟨by omega, h⟩ (by dsimp only; omega)
          dsimp only at hy
          clear ih2
          generalize row.getD j default = c at *
          have c3 := contains_okI t c (by omega)
          refine hκ.run 300 ?_
          simp (disch := omega) only [push_cast, simprocAttr, q2, gj]
          (repeat (refine ⟨by first | omega | (refine ⟨?_, ?_⟩ <;> omega) | trivial | (simp; done) | decide +kernel, fun _ => ?_⟩))
          refine Does.lent hκ.hP hκ.hgl [1] [Is t, I c] c3 ⟨trivial, trivial, rfl, trivial⟩ (by simp [lendL, lendS, lendSl, Heap.get, et]) (by simp [lendPL, lendP, lendSlP, Heap.get]; omega) (by simp [SV.bnd, SV.bndL]) ?_
          rintro s H n' ⟨rfl, rfl, rfl⟩
          refine ⟨⟨by simp [SV.bnd, SV.bndL], by simp [SV.plain, SV.plainL], rfl, rfl⟩, ?_⟩
          by_cases hct : c ∈ t
          · rw [decide_eq_true hct]
            rw [fp, decide_eq_false (fun h => h hct), Bool.false_and] at hfj
            have hy := hy x hfj
            refine hκ.run 300 ?_
            simp (disch := omega) only [push_cast, simprocAttr, q2, gj]
            exact hy.less (by repeat' (first | exact EnvSub.nil _ | exact HeapSub.nil _ | refine EnvSub.cons rfl ?_ | refine HeapSub.cons rfl ?_ | (refine EnvSub.cons (by simp [Env.get]; done) ?_) | (refine HeapSub.cons (by simp [Heap.get]; done) ?_))) (by repeat' (first | exact EnvSub.nil _ | exact HeapSub.nil _ | refine EnvSub.cons rfl ?_ | refine HeapSub.cons rfl ?_ | (refine EnvSub.cons (by simp [Env.get]; done) ?_) | (refine HeapSub.cons (by simp [Heap.get]; done) ?_)))
          · rw [decide_eq_false hct]
            rw [fp, decide_eq_true hct, Bool.true_and] at hfj
            refine hκ.runO 5 6 300 ?_
            simp (disch := omega) only [push_cast, simprocAttr, q2, gj]
            (repeat (refine ⟨by first | omega | (refine ⟨?_, ?_⟩ <;> omega) | trivial | (simp; done) | decide +kernel, fun _ => ?_⟩))
            refine Sat.frz [2] 39 _ rfl (by first | (simp [lendPL, lendP, lendSlP, Heap.get]; done) | (simp only [lendPL, lendP, lendSlP, Heap.get, List.mem_singleton, List.mem_cons, List.not_mem_nil, or_false, or_true, true_or, Nat.reduceEqDiff, Nat.one_ne_zero, Nat.zero_ne_one, ↓reduceIte, and_true, true_and, List.length_map, List.length_append, List.length_cons, List.length_nil, List.length_replicate]; omega)) ?_
            simp only [lendL, lendS, lendSl, Heap.get, without, List.mem_singleton, List.mem_cons, List.not_mem_nil, or_false, or_true, true_or, List.drop_zero, List.take_length, List.take_succ_cons, List.take_zero, Nat.reduceAdd, Nat.reduceEqDiff, Nat.one_ne_zero, Nat.zero_ne_one, ↓reduceIte]
            have hset : (List.map eRw (sgl t ++ x :: rest)).set k [.rd 1 [[.v (.int .i64 c)]]] = List.map eRw (sgl t ++ [c] :: rest) := by
              rw [← htl, List.map_append, List.map_append, List.set_append_right _ _ (by simp [sgl_len])]
              simp [sgl_len, eRw, eI]
            have hov : over ((List.map eRw (sgl t ++ x :: rest)).getD k []) [.rd 1 [[.v (.int .i64 c)]]] = some [.rd 1 [[.v (.int .i64 c)]]] := by
              have e : (List.map eRw (sgl t ++ x :: rest)).getD k [] = [Is x] := by
                rw [← htl, List.map_append, List.getD, List.getElem?_append_right (by simp [sgl_len])]
                simp [sgl_len, eRw]
              rw [e]; rfl
            have hlen : (sgl t ++ [c] :: rest).length = rows.length := by simp [sgl_len]; omega
            have etL : List.take rows.length (List.map eRw (sgl t ++ [c] :: rest)) = List.map eRw (sgl t ++ [c] :: rest) := List.take_of_length_le (by rw [List.length_map, hlen]; exact Nat.le_refl _)
            have ok4 : okR (sgl t ++ [c] :: rest) := by
              rw [← sgl_snoc]
              exact okR_t (fun d hd => by
                rcases List.mem_append.1 hd with h | h
                · exact ht8 d h
                · rw [List.mem_singleton.1 h]; exact hc8) hrest
            have c4 := matching_ok (sgl t ++ [c] :: rest) ok4 (by rw [hlen]; omega) (fun r hr => by
              rcases List.mem_append.1 hr with h | h
              · obtain ⟨d, -, rfl⟩ := List.mem_map.1 h
                simp
              · rcases List.mem_cons.1 h with rfl | h
                · simp
                · exact hrestl r h)
            rw [sgl_snoc] at hfj
            refine hκ.run 300 ?_
            simp (disch := omega) only [push_cast, simprocAttr, q2, gj, hov, hset, sgl_len]
            (repeat (refine ⟨by first | omega | (refine ⟨?_, ?_⟩ <;> omega) | trivial | (simp; done) | decide +kernel, fun _ => ?_⟩))
            refine Does.lent hκ.hP hκ.hgl [0] [Rws (sgl t ++ [c] :: rest)] c4 ⟨trivial, trivial, rfl, trivial⟩ (by simp only [lendL, lendS, lendSl, Heap.get, List.mem_singleton, List.drop_zero, etL, Nat.reduceEqDiff, Nat.one_ne_zero, ↓reduceIte]) (by simp [lendPL, lendP, lendSlP, Heap.get, sgl_len]; omega) (by simp [SV.bnd, SV.bndL]) ?_
            rintro s H n' ⟨rfl, rfl, rfl⟩
            refine ⟨⟨by simp [SV.bnd, SV.bndL], by simp [SV.plain, SV.plainL], rfl, rfl⟩, ?_⟩
            cases hmc : matchB (sgl t ++ [c] :: rest)
            · rw [hmc] at hfj
              have hy := hy [c] hfj
              refine hκ.run 300 ?_
              simp (disch := omega) only [push_cast, simprocAttr, q2, gj, hov, hset, sgl_len]
              refine Sat.via (fun i => i) (hy) (by intro i j; (repeat (first | omega | split))) (by repeat' (first | exact EnvVia.nil | refine EnvVia.cons (by first | trivial | decide | (simp [SV.bnd, SV.bndL]; done)) rfl ?_)) (by repeat' (first | exact HeapVia.nil | refine HeapVia.cons (by decide) (by first | trivial | exact Blk.bnd_own0 (by assumption) | (simp [Blk.bnd, SV.bnd, SV.bndL]; done) | exact bndL_mapV _ _ _ | exact LR.bnd (by rw [l2]; simp [bndE, SV.bnd, SV.bndL]) (by rw [l6]; decide)) (by first | (rw [Blk.ren_own0 (by assumption)]; rfl) | rfl | (simp only [Blk.ren, renL_mapV]; rfl) | (rw [LR.ren (by rw [l2] <;> rfl) (by rw [l6] <;> rfl)]; rfl)) ?_)) ⟨by have := hκ.hm; (try dsimp only at this); (first | done | omega), fun i hi => by have := hκ.hm; (try dsimp only at this); (first | omega | (dsimp only; omega) | (rw [if_neg (by omega)]))⟩ ⟨by simp, rfl⟩
            · rw [hmc] at hfj
              obtain rfl : c = c0 := Option.some.inj hfj
              refine hκ.run 300 ?_
              simp (disch := omega) only [push_cast, simprocAttr, q2, gj, et]
              (repeat (refine ⟨by first | omega | (refine ⟨?_, ?_⟩ <;> omega) | trivial | (simp; done) | decide +kernel, fun _ => ?_⟩))
              intro i
              have hz := hz (t.length + 1 + i) (by simp)
              simp only [List.length_append, List.length_cons, List.length_nil, List.length_singleton, List.length_map, List.length_set, List.length_replicate, Nat.zero_add, Nat.add_zero, Int.natCast_add, Int.natCast_one, Int.ofNat_eq_natCast, List.map_append, List.map_cons, List.map_nil, List.take_length, eI, eB] at hz ⊢
              refine Sat.via (fun i => if i = 1 then 4 else i) (hz) (by intro i j; (repeat (first | omega | split))) (by repeat' (first | exact EnvVia.nil | refine EnvVia.cons (by first | trivial | decide | (simp [SV.bnd, SV.bndL]; done)) rfl ?_)) (by repeat' (first | exact HeapVia.nil | refine HeapVia.cons (by decide) (by first | trivial | exact Blk.bnd_own0 (by assumption) | (simp [Blk.bnd, SV.bnd, SV.bndL]; done) | exact bndL_mapV _ _ _ | exact LR.bnd (by rw [l2]; simp [bndE, SV.bnd, SV.bndL]) (by rw [l6]; decide)) (by first | (rw [Blk.ren_own0 (by assumption)]; rfl) | rfl | (simp only [Blk.ren, renL_mapV]; rfl) | (rw [LR.ren (by rw [l2] <;> rfl) (by rw [l6] <;> rfl)]; rfl)) ?_)) ⟨by have := hκ.hm; (try dsimp only at this); (first | done | omega), fun i hi => by have := hκ.hm; (try dsimp only at this); (first | omega | (dsimp only; omega) | (rw [if_neg (by omega)]))⟩ ⟨by simp, rfl⟩
        · have : row.drop j = [] := List.drop_of_length_le (by omega)
          rw [this] at hfj
          cases hfj
    · obtain rfl : k = rows.length := by omega
      rw [List.drop_length, gm] at hg
      rw [← hg] at hκ
      have q1 : ((rows.length : Int) < rows.length) = False := by first | (simp only [eq_iff_iff, iff_false]; first | assumption | omega) | (simp; omega)
      refine hκ.run 300 ?_
      simp (disch := omega) only [push_cast, simprocAttr, q1]
      refine hκ.ret _ _ _ _ _ _ trivial rfl ?_
      refine Post.frz [1] (by first | (simp [lendPL, lendP, lendSlP, dropL, Heap.get, Heap.drop, resV]; done) | (simp [lendPL, lendP, lendSlP, dropL, Heap.get, Heap.drop, resV]; omega) | (simp [lendPL, lendP, lendSlP, dropL, Heap.get, Heap.drop, resV, -List.length_eq_zero_iff]; omega)) ?_
      simp only [resV, lendL, lendS, lendSl, dropL, Heap.drop, Heap.get, List.mem_singleton, List.mem_cons, List.not_mem_nil, or_false, or_true, true_or, List.drop_zero, Nat.reduceEqDiff, Nat.one_ne_zero, Nat.zero_ne_one, ↓reduceIte, et]
      exact .ret (by simp [SV.bnd, SV.bndL])
end Go.Proofs.YtnjgmjcokcfmkaaDoor

/- What members take; plain facts of picks. No condition. -/
import Derived.Test.YtnjgmjcokcfmkaaDoorQc
namespace Go.Proofs.YtnjgmjcokcfmkaaDoor
open Go Go.Sy
set_option maxRecDepth 100000
set_option linter.unusedSimpArgs false
set_option linter.unusedVariables false
set_option maxHeartbeats 4000000

theorem fm_len : ∀ (rest : List (List Int)) (t m : List Int), fm t rest = some m → m.length = t.length + rest.length
  | [], t, m, h => by obtain rfl := Option.some.inj h; rfl
  | r :: rest, t, m, h => by
    rw [fm] at h
    obtain ⟨c, hc, h⟩ := List.exists_of_findSome?_eq_some h
    split at h
    · cases h
    · have := fm_len rest _ _ h
      simp at this ⊢; omega
theorem fm_mem : ∀ (rest : List (List Int)) (t m : List Int), fm t rest = some m → ∀ c ∈ m, c ∈ t ∨ ∃ r ∈ rest, c ∈ r
  | [], t, m, h => by obtain rfl := Option.some.inj h; exact fun c hc => Or.inl hc
  | r :: rest, t, m, h => by
    rw [fm] at h
    obtain ⟨d, hd, h⟩ := List.exists_of_findSome?_eq_some h
    split at h
    · cases h
    · intro c hc
      rcases fm_mem rest _ _ h c hc with h | ⟨r', h1, h2⟩
      · rcases List.mem_append.1 h with h | h
        · exact Or.inl h
        · rw [List.mem_singleton.1 h]; exact Or.inr ⟨r, by simp, hd⟩
      · exact Or.inr ⟨r', by simp [h1], h2⟩
/-- What members take. -/
def tkO (w : List Wi) (free : Nat) : Option (List Int) := if 1 < w.length then fm [] (chsL w free) else (bestB (w.getD 0 default).m free (w.getD 0 default).a).map fun c => [c]
def tkV (w : List Wi) (free : Nat) : SV := if 1 < w.length then fmV (fm [] (chsL w free)) else .tup [Is [(bestB (w.getD 0 default).m free (w.getD 0 default).a).getD 0], Bo (bestB (w.getD 0 default).m free (w.getD 0 default).a).isSome]
theorem tkO_ok {w : List Wi} {free : Nat} {at' : List Int} (h0 : 1 ≤ w.length) (h : tkO w free = some at') : at'.length = w.length ∧ (∀ c ∈ at', 0 ≤ c ∧ c < 8) := by
  rw [tkO] at h
  split at h
  · refine ⟨?_, fun c hc => ?_⟩
    · have := fm_len _ _ _ h
      simpa [chsL] using this
    · rcases fm_mem _ _ _ h c hc with h | ⟨r, hr, hc⟩
      · cases h
      · obtain ⟨x, -, rfl⟩ := List.mem_map.1 hr
        exact (chs_ok x free).1 c hc
  · cases hb : bestB (w.getD 0 default).m free (w.getD 0 default).a with
    | none => rw [hb] at h; cases h
    | some c =>
      rw [hb] at h
      obtain rfl := Option.some.inj h
      refine ⟨by simp; omega, fun d hd => ?_⟩
      rw [List.mem_singleton.1 hd]
      exact hasB_bd (best_has hb)
theorem ptakes_ok (w : List Wi) (free : Nat) (hw : ∀ x ∈ w, inW x) (h1 : 1 ≤ w.length) (h8 : w.length ≤ 8) (hf : free < 4294967296) : Con Tryd.prog gl0 (fnv 70) [Ws w, S free] 0 [] (Ret (tkV w free)) := by
  by_cases hl : 1 < w.length
  · have c1 := (rows_ok w free hw (by omega) hf).toRd
    have c2 := match_ok (chsL w free) (fun r hr => by
      obtain ⟨x, -, rfl⟩ := List.mem_map.1 hr
      exact chs_ok x free) (by simpa [chsL] using h8) (by simp [chsL]; omega) (fun r hr => by
      obtain ⟨x, -, rfl⟩ := List.mem_map.1 hr
      have := chs_len x free; omega)
    rw [tkV, if_pos hl]
    generalize chsL w free = rs at *
    have q1 : (1 < (w.length : Int)) = True := by first | (simp only [eq_iff_iff, iff_true]; first | assumption | omega) | (simp; omega)
    refine Con.of Tryd.ok70 (nt := 33) (res := [.tmp 4, .tmp 5]) Tryd.mixed Tryd.func70 rfl rfl rfl rfl fun κ xc hκ => hκ.run 300 ?_
    simp (disch := omega) only [push_cast, simprocAttr, q1]
    refine Does.ret hκ.hP hκ.hgl c1 ⟨trivial, by first | (simp [SV.bnd, SV.bndL]; done) | (simp [SV.bnd, SV.bndL, ec_bnd]; done), by first | (simp [SV.bnd, SV.bndL]; done) | (simp [SV.bnd, SV.bndL, ec_bnd]; done) | assumption⟩ ?_
    refine hκ.run 300 ?_
    simp (disch := omega) only [push_cast, simprocAttr, q1]
    refine Does.ret hκ.hP hκ.hgl c2 ⟨trivial, by first | (simp [SV.bnd, SV.bndL]; done) | (simp [SV.bnd, SV.bndL, ec_bnd]; done), by first | (simp [SV.bnd, SV.bndL]; done) | (simp [SV.bnd, SV.bndL, ec_bnd]; done) | assumption⟩ ?_
    refine hκ.run 300 ?_
    simp (disch := omega) only [push_cast, simprocAttr, q1]
    refine hκ.ret _ _ _ _ _ _ trivial rfl ?_
    exact .ret (by simp [SV.bnd, SV.bndL])
  · rw [tkV, if_neg hl]
    have gk : (List.map eW w).getD 0 [] = eW (w.getD 0 default) := getD_map _ _ _ (by omega)
    obtain ⟨hv, ha, hm⟩ := hw _ (getD_mem' (show 0 < w.length by omega))
    have c1 := best_ok (w.getD 0 default).m free (w.getD 0 default).a hm hf ha
    generalize w.getD 0 default = x at *
    generalize bestB x.m free x.a = b at *
    rw [eW] at gk
    have q1 : (1 < (w.length : Int)) = False := by first | (simp only [eq_iff_iff, iff_false]; first | assumption | omega) | (simp; omega)
    refine Con.of Tryd.ok70 (nt := 33) (res := [.tmp 4, .tmp 5]) Tryd.mixed Tryd.func70 rfl rfl rfl rfl fun κ xc hκ => hκ.runD 300 ?_
    simp (disch := omega) only [push_cast, simprocAttr, q1, gk]
    refine hκ.draw (.q 0 (.q 1 (.q 2 (.q 3 (.q 4 (.q 5 (.q 6 (.q 7 (.q 8 (.l 9 [] (.q 10 (.q 11 (.q 12 (.q 13 (.q 14 (.fin)))))))))))))))) [0, 1, 2, 3, 4, 5, 6, 7, 8, 10, 11, 12, 13, 14] (by kernel_rfl) (by kernel_rfl) rfl ?_
    simp (disch := omega) only [push_cast, simprocAttr, q1, gk]
    (repeat (refine ⟨by first | omega | (refine ⟨?_, ?_⟩ <;> omega) | trivial | (simp; done) | decide +kernel, fun _ => ?_⟩))
    refine DCall.of (Does.ret hκ.hP hκ.hgl c1 ⟨trivial, by first | (simp [SV.bnd, SV.bndL]; done) | (simp [SV.bnd, SV.bndL, ec_bnd]; done), by first | (simp [SV.bnd, SV.bndL]; done) | (simp [SV.bnd, SV.bndL, ec_bnd]; done) | assumption⟩ ?_)
    simp (disch := omega) only [push_cast, simprocAttr, q1, gk]
    refine hκ.run 300 ?_
    simp (disch := omega) only [push_cast, simprocAttr, q1, gk]
    refine hκ.ret _ _ _ _ _ _ trivial rfl ?_
    have et : List.take 1 [[SV.v (.int .i64 (b.getD 0))]] = [[SV.v (.int .i64 (b.getD 0))]] := rfl
    refine Post.frz [0] (by first | (simp [lendPL, lendP, lendSlP, dropL, Heap.get, Heap.drop, resV]; done) | (simp [lendPL, lendP, lendSlP, dropL, Heap.get, Heap.drop, resV]; omega) | (simp [lendPL, lendP, lendSlP, dropL, Heap.get, Heap.drop, resV, -List.length_eq_zero_iff]; omega)) ?_
    simp only [resV, lendL, lendS, lendSl, dropL, Heap.drop, Heap.get, List.mem_singleton, List.mem_cons, List.not_mem_nil, or_false, or_true, true_or, List.drop_zero, Nat.reduceEqDiff, Nat.one_ne_zero, Nat.zero_ne_one, ↓reduceIte, et]
    exact .ret (by simp [SV.bnd, SV.bndL])
/-- All that have wishes. -/
theorem okMs_nodup : ∀ (ms all pre : List Int), okMs all pre ms = true → (all ++ pre).Nodup → (all ++ pre ++ ms).Nodup
  | [], all, pre, _, h => by simpa using h
  | v :: ms, all, pre, h, hn => by
    rw [okMs, Bool.and_eq_true, ok1M, Bool.and_eq_true, Bool.and_eq_true] at h
    have hnv : v ∉ all ++ pre := fun hm => by
      have := h.1.2.1
      rw [Bool.not_eq_true', List.any_eq_false] at this
      exact absurd (by simp) (this v hm)
    have := okMs_nodup ms all (pre ++ [v]) h.2 (by
      rw [← List.append_assoc, List.nodup_append]
      exact ⟨hn, by simp, fun a ha b hb e => hnv (by rw [List.mem_singleton.1 hb] at e; exact e ▸ ha)⟩)
    simpa [List.append_assoc] using this
theorem okL_nodup : ∀ (l : List En) (all : List Int), okL all l = true → all.Nodup → (all ++ allM l).Nodup
  | [], all, _, h => by simpa [allM] using h
  | x :: l, all, h, hn => by
    rw [okL, Bool.and_eq_true, okX, Bool.and_eq_true] at h
    have h1 := okMs_nodup x.ms all [] h.1.2 (by simpa using hn)
    rw [List.append_nil] at h1
    have := okL_nodup l _ h.2 h1
    simpa [allM, List.append_assoc] using this
theorem okV_rise : ∀ (w : List Wi) (all : List Int) (pre : List Wi), okV all pre w = true → (pre.map Wi.v).Pairwise (· < ·) → ((pre ++ w).map Wi.v).Pairwise (· < ·) ∧ ∀ x ∈ w, x.v ∈ all
  | [], all, pre, _, h => ⟨by simpa using h, fun x hx => nomatch hx⟩
  | y :: w, all, pre, h, hp => by
    rw [okV, Bool.and_eq_true, ok1V, Bool.and_eq_true] at h
    obtain ⟨⟨h1, h2⟩, h3⟩ := h
    have hlt : ∀ u ∈ pre, u.v < y.v := fun u hu => by
      have hpos : 0 < pre.length := List.length_pos_of_mem hu
      have hl : ¬ y.v ≤ (pre.getD (pre.length - 1) default).v := by
        rw [decide_eq_true hpos, Bool.true_and] at h2
        simpa using h2
      obtain ⟨i, hi, rfl⟩ := List.getElem_of_mem hu
      rw [List.getD, List.getElem?_eq_getElem (by omega), Option.getD_some] at hl
      by_cases e : i = pre.length - 1
      · subst e; omega
      · have := List.pairwise_iff_getElem.1 hp i (pre.length - 1) (by simpa using hi) (by simp; omega) (by omega)
        simp at this
        omega
    obtain ⟨g1, g2⟩ := okV_rise w all (pre ++ [y]) h3 (by
      rw [List.map_append, List.pairwise_append]
      exact ⟨hp, by simp, fun a ha b hb => by
        obtain ⟨u, hu, rfl⟩ := List.mem_map.1 ha
        obtain ⟨u', hu', rfl⟩ := List.mem_map.1 hb
        rw [List.mem_singleton.1 hu']
        exact hlt u hu⟩)
    refine ⟨by simpa [List.append_assoc] using g1, fun x hx => ?_⟩
    rcases List.mem_cons.1 hx with rfl | hx
    · obtain ⟨u, hu, e⟩ := List.any_eq_true.1 h1
      have := of_decide_eq_true e
      exact this ▸ hu
    · exact g2 x hx
theorem wsh_len {l : List En} {w : List Wi} (h : okL [] l = true) (hv : okV (allM l) [] w = true) (hn : w.length = (allM l).length) {x : En} (hx : x ∈ l) : (wsh w x.ms).length = x.ms.length := by
  have nd := okL_nodup l [] h List.nodup_nil
  rw [List.nil_append] at nd
  obtain ⟨r1, r2⟩ := okV_rise w (allM l) [] hv List.Pairwise.nil
  rw [List.nil_append] at r1
  have ndw : (w.map Wi.v).Nodup := r1.imp (fun h => by omega)
  have sub : ∀ v ∈ x.ms, v ∈ allM l := fun v hv => List.mem_flatMap.2 ⟨x, hx, hv⟩
  have ndm : x.ms.Nodup := by
    obtain ⟨s, t, rfl⟩ := List.append_of_mem hx
    rw [allM, List.flatMap_append, List.flatMap_cons] at nd
    exact (List.nodup_append.1 (List.nodup_append.1 nd).2.1).1
  have f1 : ((wsh w x.ms).map Wi.v).Nodup := List.Pairwise.sublist (List.Sublist.map _ List.filter_sublist) ndw
  have f2 : ((w.filter fun y => !decide (y.v ∈ x.ms)).map Wi.v).Nodup := List.Pairwise.sublist (List.Sublist.map _ List.filter_sublist) ndw
  have le1 := nodup_sub _ x.ms f1 fun v hv => by
    obtain ⟨y, hy, rfl⟩ := List.mem_map.1 hv
    exact of_decide_eq_true (List.mem_filter.1 hy).2
  have le2 := nodup_sub _ ((allM l).filter fun v => !decide (v ∈ x.ms)) f2 fun v hv => by
    obtain ⟨y, hy, rfl⟩ := List.mem_map.1 hv
    obtain ⟨y1, y2⟩ := List.mem_filter.1 hy
    exact List.mem_filter.2 ⟨r2 y y1, y2⟩
  have le3 := nodup_sub x.ms ((allM l).filter fun v => decide (v ∈ x.ms)) ndm fun v hv => List.mem_filter.2 ⟨sub v hv, decide_eq_true hv⟩
  have s1 : ∀ {α : Type} (p : α → Bool) (l : List α), (l.filter p).length + (l.filter fun y => !p y).length = l.length := fun p l => by
    induction l with
    | nil => rfl
    | cons a l ih =>
      rw [List.filter_cons, List.filter_cons]
      cases p a <;> simp <;> omega
  have e1 := s1 (fun y : Wi => decide (y.v ∈ x.ms)) w
  have e2 := s1 (fun v : Int => decide (v ∈ x.ms)) (allM l)
  simp only [List.length_map] at le1 le2
  rw [wsh] at *
  omega
end Go.Proofs.YtnjgmjcokcfmkaaDoor

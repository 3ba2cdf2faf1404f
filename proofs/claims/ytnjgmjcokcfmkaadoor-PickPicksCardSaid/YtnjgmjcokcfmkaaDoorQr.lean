/- PickAlone: the walk of the law; the law's own same. No condition. -/
import Derived.Test.YtnjgmjcokcfmkaaDoorQo
import Derived.Test.YtnjgmjcokcfmkaaDoorPm
import Derived.Test.YtnjgmjcokcfmkaaDoorPx
namespace Go.Proofs.YtnjgmjcokcfmkaaDoor
open Go Go.Sy
set_option maxRecDepth 100000
set_option linter.unusedSimpArgs false
set_option linter.unusedVariables false
set_option maxHeartbeats 8000000

theorem same_ok (a b : List (Int × Int)) (hn : a.length < 2 ^ 46) : Con Tryd.prog gl0 (fnv 26) [Ps a, Ps b] 0 [] (Ret (Bo (decide (a = b)))) := by
  by_cases hlen : a.length = b.length
  rotate_left
  · rw [decide_eq_false (fun e => hlen (by rw [e]))]
    have q0 : ((a.length : Int) = b.length) = False := by first | (simp only [eq_iff_iff, iff_false]; first | assumption | omega) | (simp; omega)
    refine Con.of Tryd.ok26 (nt := 26) (res := [.tmp 4]) Tryd.mixed Tryd.func26 rfl rfl rfl rfl fun κ xc hκ => hκ.run 300 ?_
    simp (disch := omega) only [push_cast, simprocAttr, q0]
    refine hκ.ret _ _ _ _ _ _ trivial rfl ?_
    exact .ret trivial
  have q0 : ((a.length : Int) = b.length) = True := by first | (simp only [eq_iff_iff, iff_true]; first | assumption | omega) | (simp; omega)
  refine Con.of Tryd.ok26 (nt := 26) (res := [.tmp 4]) Tryd.mixed Tryd.func26 rfl rfl rfl rfl fun κ xc hκ => hκ.run 300 ?_
  simp (disch := omega) only [push_cast, simprocAttr, q0]
  refine Sat.less (Sat.loop (γ := Nat) (fun k => ([(13, I k), (12, I a.length), (0, Ps a), (1, Ps b)], [], 0)) (fun k => a.length - k) (fun k => k ≤ a.length ∧ a.take k = b.take k) ?round 0 ⟨Nat.zero_le _, rfl⟩) (by repeat' (first | exact EnvSub.nil _ | exact HeapSub.nil _ | refine EnvSub.cons rfl ?_ | refine HeapSub.cons rfl ?_ | (refine EnvSub.cons (by simp [Env.get]; done) ?_) | (refine HeapSub.cons (by simp [Heap.get]; done) ?_))) (by repeat' (first | exact EnvSub.nil _ | exact HeapSub.nil _ | refine EnvSub.cons rfl ?_ | refine HeapSub.cons rfl ?_ | (refine EnvSub.cons (by simp [Env.get]; done) ?_) | (refine HeapSub.cons (by simp [Heap.get]; done) ?_)))
  case round =>
    rintro k ⟨hk, hl⟩ ih
    dsimp only at hk hl ih ⊢
    by_cases hkl : k < a.length
    · have q1 : ((k : Int) < a.length) = True := by first | (simp only [eq_iff_iff, iff_true]; first | assumption | omega) | (simp; omega)
      have q2 : ((k : Int) < b.length) = True := by first | (simp only [eq_iff_iff, iff_true]; first | assumption | omega) | (simp; omega)
      have e00 : (0 ≤ (k : Int)) = True := by first | (simp only [eq_iff_iff, iff_true]; first | assumption | omega) | (simp; omega)
      have gk : (List.map eP a).getD k [] = eP (a.getD k default) := getD_map _ _ _ hkl
      have gl : (List.map eP b).getD k [] = eP (b.getD k default) := getD_map _ _ _ (by omega)
      have hee : (decide ((a.getD k default).1 = (b.getD k default).1) && (decide ((a.getD k default).2 = (b.getD k default).2) && true)) = decide (a.getD k default = b.getD k default) := by
        rw [Bool.and_true, ← Bool.decide_and]; exact decide_eq_decide.2 (Prod.ext_iff.symm)
      have hz := fun e => ih (k + 1) ⟨by omega, take_eq_succ' (by omega) (by omega) hl e⟩ (by omega)
      have hne : a.getD k default ≠ b.getD k default → decide (a = b) = false := fun e => decide_eq_false fun h => e (by rw [h])
      clear ih
      generalize a.getD k default = x at *
      generalize b.getD k default = y at *
      rw [eP] at gk gl
      by_cases e : x = y
      · have hz2 := hz e
        clear hz hne
        subst e
        refine hκ.run 300 ?_
        simp (disch := omega) only [push_cast, simprocAttr, q1, q2, gk, gl, e00]
        (repeat (refine ⟨by first | omega | (refine ⟨?_, ?_⟩ <;> omega) | trivial | (simp; done) | decide +kernel, fun _ => ?_⟩))
        exact hz2.less (by repeat' (first | exact EnvSub.nil _ | exact HeapSub.nil _ | refine EnvSub.cons rfl ?_ | refine HeapSub.cons rfl ?_ | (refine EnvSub.cons (by simp [Env.get]; done) ?_) | (refine HeapSub.cons (by simp [Heap.get]; done) ?_))) (by repeat' (first | exact EnvSub.nil _ | exact HeapSub.nil _ | refine EnvSub.cons rfl ?_ | refine HeapSub.cons rfl ?_ | (refine EnvSub.cons (by simp [Env.get]; done) ?_) | (refine HeapSub.cons (by simp [Heap.get]; done) ?_)))
      · rw [hne e] at hκ
        rw [Bool.and_true, decide_eq_false e] at hee
        refine hκ.run 300 ?_
        simp (disch := omega) only [push_cast, simprocAttr, q1, q2, gk, gl, e00, hee]
        (repeat (refine ⟨by first | omega | (refine ⟨?_, ?_⟩ <;> omega) | trivial | (simp; done) | decide +kernel, fun _ => ?_⟩))
        refine hκ.ret _ _ _ _ _ _ trivial rfl ?_
        exact .ret trivial
    · obtain rfl : k = a.length := by omega
      rw [List.take_length, List.take_of_length_le (by omega)] at hl
      rw [decide_eq_true hl] at hκ
      have q1 : ((a.length : Int) < a.length) = False := by first | (simp only [eq_iff_iff, iff_false]; first | assumption | omega) | (simp; omega)
      refine hκ.run 300 ?_
      simp (disch := omega) only [push_cast, simprocAttr, q1]
      refine hκ.ret _ _ _ _ _ _ trivial rfl ?_
      exact .ret trivial
/-- Two wishes that may stand together. -/
def apW (u w : Wi) : Prop := u.v ≠ w.v ∧ ¬ (0 ≤ w.a ∧ u.a = w.a)
theorem apW_symm {u w : Wi} (h : apW u w) : apW w u := ⟨fun e => h.1 e.symm, fun ⟨h1, h2⟩ => h.2 ⟨by omega, h2.symm⟩⟩
theorem okB_iff {pre : List Wi} {w : Wi} : okB pre w = true ↔ ok1 w = true ∧ ∀ u ∈ pre, apW u w := by
  rw [okB, Bool.and_eq_true, Bool.and_eq_true, and_assoc]
  refine and_congr_right fun _ => ?_
  simp only [Bool.not_eq_true', List.any_eq_false, decide_eq_true_eq, Bool.and_eq_false_iff, decide_eq_false_iff_not, apW]
  constructor
  · rintro ⟨h1, h2⟩ u hu
    refine ⟨h1 u hu, fun ⟨h3, h4⟩ => ?_⟩
    rcases h2 with h2 | h2
    · exact h2 h3
    · exact h2 u hu h4
  · intro h
    refine ⟨fun u hu => (h u hu).1, ?_⟩
    by_cases h3 : 0 ≤ w.a
    · exact Or.inr fun u hu h4 => (h u hu).2 ⟨h3, h4⟩
    · exact Or.inl h3
theorem okWs_pair : ∀ (l pre : List Wi), okWs pre l = true → pre.Pairwise apW → (pre ++ l).Pairwise apW ∧ ∀ w ∈ l, ok1 w = true
  | [], pre, _, hp => ⟨by simpa using hp, fun w hw => nomatch hw⟩
  | w :: l, pre, h, hp => by
    rw [okWs, Bool.and_eq_true, okB_iff] at h
    obtain ⟨h1, h2⟩ := okWs_pair l (pre ++ [w]) h.2 (by
      rw [List.pairwise_append]
      exact ⟨hp, by simp, fun a ha b hb => by rw [List.mem_singleton.1 hb]; exact h.1.2 a ha⟩)
    refine ⟨by simpa [List.append_assoc] using h1, fun x hx => ?_⟩
    rcases List.mem_cons.1 hx with rfl | hx
    · exact h.1.1
    · exact h2 x hx
theorem pair_okWs : ∀ (l pre : List Wi), (∀ w ∈ l, ok1 w = true) → (pre ++ l).Pairwise apW → okWs pre l = true
  | [], pre, _, _ => rfl
  | w :: l, pre, h, hp => by
    rw [okWs, Bool.and_eq_true, okB_iff]
    refine ⟨⟨h w (by simp), fun u hu => (List.pairwise_append.1 hp).2.2 u hu w (by simp)⟩, pair_okWs l (pre ++ [w]) (fun x hx => h x (by simp [hx])) (by simpa [List.append_assoc] using hp)⟩
theorem pair_mem {w : List Wi} (h : w.Pairwise apW) {u y : Wi} (hu : u ∈ w) (hy : y ∈ w) (hne : u.v ≠ y.v) : apW u y := by
  obtain ⟨i, hi, rfl⟩ := List.getElem_of_mem hu
  obtain ⟨j, hj, rfl⟩ := List.getElem_of_mem hy
  rcases Nat.lt_trichotomy i j with hij | rfl | hij
  · exact List.pairwise_iff_getElem.1 h i j hi hj hij
  · exact absurd rfl hne
  · exact apW_symm (List.pairwise_iff_getElem.1 h j i hj hi hij)
/-- Of wishes that may be, any few, in any order. -/
theorem okWs_few {w row : List Wi} (h : okWs [] w = true) (hr : ∀ y ∈ row, y ∈ w) (hn : (row.map Wi.v).Nodup) : okWs [] row = true := by
  obtain ⟨h1, h2⟩ := okWs_pair w [] h List.Pairwise.nil
  rw [List.nil_append] at h1
  refine pair_okWs row [] (fun y hy => h2 y (hr y hy)) ?_
  rw [List.nil_append]
  rw [List.Nodup, List.pairwise_map] at hn
  exact hn.imp_of_mem fun ha hb e => pair_mem h1 (hr _ ha) (hr _ hb) e
/-- The wishes of singles, in the entities' order. -/
def rowW (w : List Wi) (l : List En) : List Wi := l.map fun x => wshO w (x.ms.getD 0 default)
theorem rowW_snoc (w : List Wi) (l : List En) (x : En) : rowW w (l ++ [x]) = rowW w l ++ [wshO w (x.ms.getD 0 default)] := by simp [rowW]
theorem okW_mem {w : List Wi} {x : En} (h : okW w x) : wshO w (x.ms.getD 0 default) ∈ w := by
  obtain ⟨h1, h2, h3⟩ := h
  rw [h3 0 (by omega)]
  exact (List.mem_filter.1 (getD_mem' (show 0 < (wsh w x.ms).length by omega))).1
theorem okW_v {w : List Wi} {x : En} (h : okW w x) (h1 : x.ms.length = 1) : (wshO w (x.ms.getD 0 default)).v = x.ms.getD 0 default := by
  obtain ⟨-, h2, h3⟩ := h
  rw [h3 0 (by omega)]
  have hm := of_decide_eq_true (List.mem_filter.1 (getD_mem' (show 0 < (wsh w x.ms).length by omega))).2
  obtain ⟨v, hv⟩ := List.length_eq_one_iff.1 h1
  rw [hv] at hm ⊢
  exact List.mem_singleton.1 hm
theorem rowW_v {w : List Wi} : ∀ {l : List En}, (∀ x ∈ l, okW w x) → (∀ x ∈ l, x.ms.length = 1) → (rowW w l).map Wi.v = allM l
  | [], _, _ => rfl
  | x :: l, h, h1 => by
    have hv := okW_v (h x (by simp)) (h1 x (by simp))
    have ih := rowW_v (l := l) (fun y hy => h y (by simp [hy])) (fun y hy => h1 y (by simp [hy]))
    obtain ⟨v, he⟩ := List.length_eq_one_iff.1 (h1 x (by simp))
    rw [rowW, List.map_cons, List.map_cons, allM, List.flatMap_cons]
    rw [rowW, allM] at ih
    rw [ih, hv, he]
    rfl
theorem alone {w : List Wi} {free : Nat} : ∀ (n : Nat) (l : List En), l.length = n → (∀ x ∈ l, okW w x) → (∀ x ∈ l, x.ms.length = 1) →
    (pickR w free l).free = (runP free (rowW w l)).free ∧ (pickR w free l).puts = (runP free (rowW w l)).puts ∧ (pickR w free l).waits = (runP free (rowW w l)).waits := by
  intro n
  induction n with
  | zero => intro l h _ _; rw [List.eq_nil_of_length_eq_zero h]; exact ⟨rfl, rfl, rfl⟩
  | succ n ih =>
    intro l h hw h1
    obtain ⟨l', x, rfl⟩ : ∃ l' x, l = l' ++ [x] := by
      rcases List.eq_nil_or_concat l with rfl | ⟨l', x, rfl⟩
      · simp at h
      · exact ⟨l', x, by simp⟩
    obtain ⟨i1, i2, i3⟩ := ih l' (by simpa using h) (fun y hy => hw y (by simp [hy])) (fun y hy => h1 y (by simp [hy]))
    have hx := hw x (by simp)
    have hx1 := h1 x (by simp)
    have hv := okW_v hx hx1
    obtain ⟨v, he⟩ := List.length_eq_one_iff.1 hx1
    have e : pickR w free (l' ++ [x]) = stepK w (pickR w free l') x := by simp [pickR, List.foldl_append]
    obtain ⟨-, hx2, hx3⟩ := hx
    have hw0 := hx3 0 (by omega)
    rw [e, rowW_snoc, runP_snoc, stepK, tkO, if_neg (by omega), ← hw0, stepP, takesW, i1]
    generalize wshO w (x.ms.getD 0 default) = y at *
    rw [he] at hv
    cases bestB y.m (runP free (rowW w l')).free y.a with
    | none => exact ⟨rfl, i2, by rw [i3, he, hv]; rfl⟩
    | some c => exact ⟨rfl, by rw [i2, he, hv]; rfl, i3⟩
theorem alone_law (l : List En) (w : List Wi) (free : Nat) (hl : ∀ x ∈ l, inE0 x) (hw : ∀ x ∈ w, inW x) (hn : l.length < 2 ^ 46) (hn2 : w.length < 2 ^ 46) (hf : free < 4294967296) : Law Tryd.prog gl0 7 [Ak l w free] := by
  have co := over_ok l w free hn hn2
  refine Law.of (nt := 88) (res := [.tmp 2]) Tryd.mixed Tryd.func7 rfl rfl rfl rfl fun κ xc hκ => hκ.run 300 ?_
  simp (disch := omega) only [push_cast, simprocAttr]
  refine Does.ret hκ.hP hκ.hgl (wakes_ok) ⟨trivial, by first | (simp [SV.bnd, SV.bndL]; done) | (simp [SV.bnd, SV.bndL, ec_bnd]; done), by first | (simp [SV.bnd, SV.bndL]; done) | (simp [SV.bnd, SV.bndL, ec_bnd]; done) | assumption⟩ ?_
  refine hκ.run 300 ?_
  simp (disch := omega) only [push_cast, simprocAttr]
  refine Does.ret hκ.hP hκ.hgl co ⟨trivial, by first | (simp [SV.bnd, SV.bndL]; done) | (simp [SV.bnd, SV.bndL, ec_bnd]; done), by first | (simp [SV.bnd, SV.bndL]; done) | (simp [SV.bnd, SV.bndL, ec_bnd]; done) | assumption⟩ ?_
  cases hov : overB l w
  rotate_left
  · refine hκ.run 300 ?_
    simp (disch := omega) only [push_cast, simprocAttr]
    refine hκ.ret _ _ _ _ _ _ trivial rfl ?_
    rfl
  obtain ⟨b1, b2, b3⟩ := over_bd hov
  have hl' : ∀ x ∈ l, inE x := fun x hx => ⟨(hl x hx).1, by have := b3 x hx; omega⟩
  have cp := Pick_ok l w free hl' hw (by omega) (by omega) hf
  refine hκ.runA 6 300 ?_
  simp (disch := omega) only [push_cast, simprocAttr]
  refine Sat.nilRow 3 4 45 rfl ?_
  refine hκ.run 300 ?_
  simp (disch := omega) only [push_cast, simprocAttr]
  refine Sat.less (Sat.loop (γ := Nat × Nat) (fun g => ([(21, I g.1), (20, I l.length), (19, Ens l), (3, .sl 1 4 0 (rowW w (l.take g.1)).length g.2), (1, .ptr 0 0 0 0)], [(0, .own [Ens l, Ws w, S free] 27), (1, .row 4 g.2 45 ((rowW w (l.take g.1)).map eW))], 2)) (fun g => l.length - g.1) (fun g => g.1 ≤ l.length ∧ g.1 ≤ g.2 ∧ ∀ x ∈ l.take g.1, x.ms.length = 1) ?round (0, 0) ⟨Nat.zero_le _, Nat.le_refl _, fun x hx => by simp at hx⟩) (by repeat' (first | exact EnvSub.nil _ | exact HeapSub.nil _ | refine EnvSub.cons rfl ?_ | refine HeapSub.cons rfl ?_ | (refine EnvSub.cons (by simp [Env.get]; done) ?_) | (refine HeapSub.cons (by simp [Heap.get]; done) ?_))) (by repeat' (first | exact EnvSub.nil _ | exact HeapSub.nil _ | refine EnvSub.cons rfl ?_ | refine HeapSub.cons rfl ?_ | (refine EnvSub.cons (by simp [Env.get]; done) ?_) | (refine HeapSub.cons (by simp [Heap.get]; done) ?_)))
  case round =>
    rintro ⟨k, cap⟩ ⟨hk, hcap, h1⟩ ih
    dsimp only at hk hcap h1 ih ⊢
    by_cases hkl : k < l.length
    · have q1 : ((k : Int) < l.length) = True := by first | (simp only [eq_iff_iff, iff_true]; first | assumption | omega) | (simp; omega)
      have e00 : (0 ≤ (k : Int)) = True := by first | (simp only [eq_iff_iff, iff_true]; first | assumption | omega) | (simp; omega)
      have gk : (List.map eEn l).getD k [] = eEn (l.getD k default) := getD_map _ _ _ hkl
      have hs : l.take (k + 1) = l.take k ++ [l.getD k default] := by
        rw [List.take_succ_eq_append_getElem hkl, List.getD, List.getElem?_eq_getElem hkl]; rfl
      have hz := fun cap hc h => ih (k + 1, cap) ⟨by dsimp only; omega, hc, h⟩ (by dsimp only; omega)
      dsimp only at hz
      rw [hs, rowW_snoc] at hz
      have hrl : (rowW w (l.take k)).length = k := by simp [rowW]; omega
      clear ih hs
      generalize l.getD k default = x at *
      generalize rowW w (l.take k) = rw' at *
      have te : takeN (eEn x) 6 = some (eEn x) := rfl
      have cm : cut (eEn x) 0 1 = some [Is x.ms] := rfl
      have t1 : takeN (eEn x) 1 = some [Is x.ms] := rfl
      have oz : over [.v (.slice none 0 0), .v (.int .u64 0), .v (.int .u64 0), .v (.int .u64 0), .v (.int .u64 0), Bo false] (eEn x) = some (eEn x) := rfl
      have on : ones (eEn x) := ⟨trivial, rfl, rfl, rfl, rfl, rfl, trivial⟩
      have le : (eEn x).length = 6 := rfl
      have tk : List.take 6 (eEn x) = eEn x := rfl
      by_cases hx1 : x.ms.length = 1
      · have q3 : ((x.ms.length : Int) = 1) = True := by first | (simp only [eq_iff_iff, iff_true]; first | assumption | omega) | (simp; omega)
        have q4 : (0 < (x.ms.length : Int)) = True := by first | (simp only [eq_iff_iff, iff_true]; first | assumption | omega) | (simp; omega)
        have g0 : (List.map (eI .i64) x.ms).getD 0 [] = eI .i64 (x.ms.getD 0 default) := getD_map _ _ _ (by omega)
        have cw := wish_ok l w free (x.ms.getD 0 default) (by omega)
        have hz := fun cap hc => hz cap hc (fun y hy => by
          rcases List.mem_append.1 hy with hy | hy
          · exact h1 y hy
          · rw [List.mem_singleton.1 hy]; exact hx1)
        generalize wshO w (x.ms.getD 0 default) = wo at *
        have et : List.take rw'.length (List.map eW rw') = List.map eW rw' := List.take_of_length_le (by simp)
        rw [eW] at cw
        refine hκ.runD 300 ?_
        simp (disch := omega) only [push_cast, simprocAttr, q1, gk, te, cm, oz, on, le, tk, t1, e00, g0, q3, q4, et]
        refine hκ.draw (.q 0 (.q 1 (.q 2 (.q 3 (.q 4 (.q 5 (.l 6 [3] (.l 7 [1, 3, 5] (.l 8 [1, 3, 5] (.l 9 [] (.fin))))))))))) [0, 1, 2, 3, 4, 5] (by kernel_rfl) (by kernel_rfl) rfl ?_
        simp (disch := omega) only [push_cast, simprocAttr, q1, gk, te, cm, oz, on, le, tk, t1, e00, g0, q3, q4, et]
        refine DCall.of (Does.ret hκ.hP hκ.hgl cw ⟨trivial, by first | (simp [SV.bnd, SV.bndL]; done) | (simp [SV.bnd, SV.bndL, ec_bnd]; done), by first | (simp [SV.bnd, SV.bndL]; done) | (simp [SV.bnd, SV.bndL, ec_bnd]; done) | assumption⟩ ?_)
        simp (disch := omega) only [push_cast, simprocAttr, q1, gk, te, cm, oz, on, le, tk, t1, e00, g0, q3, q4, et]
        refine ⟨⟨Nat.le_refl _, by omega, by omega⟩, fun _ => ?_⟩
        intro i
        refine hκ.run 300 ?_
        simp (disch := omega) only [push_cast, simprocAttr, q1, gk, te, cm, oz, on, le, tk, t1, e00, g0, q3, q4, et]
        have hy := hz (rw'.length + 1 + i) (by omega)
        simp only [List.length_append, List.length_cons, List.length_nil, List.length_singleton, List.length_map, List.length_set, List.length_replicate, Nat.zero_add, Nat.add_zero, Int.natCast_add, Int.natCast_one, Int.ofNat_eq_natCast, List.map_append, List.map_cons, List.map_nil, List.take_length, eI, eB] at hy ⊢
        rw [eW] at hy
        refine Sat.via (fun i => if i = 1 then 4 else i) (hy) (by intro i j; (repeat (first | omega | split))) (by repeat' (first | exact EnvVia.nil | refine EnvVia.cons (by first | trivial | decide | (simp [SV.bnd, SV.bndL]; done)) rfl ?_)) (by repeat' (first | exact HeapVia.nil | refine HeapVia.cons (by decide) (by first | trivial | exact Blk.bnd_own0 (by assumption) | (simp [Blk.bnd, SV.bnd, SV.bndL]; done) | exact bndL_mapV _ _ _ | exact LR.bnd (by rw [l2]; simp [bndE, SV.bnd, SV.bndL]) (by rw [l6]; decide)) (by first | (rw [Blk.ren_own0 (by assumption)]; rfl) | rfl | (simp only [Blk.ren, renL_mapV]; rfl) | (rw [LR.ren (by rw [l2] <;> rfl) (by rw [l6] <;> rfl)]; rfl)) ?_)) ⟨by have := hκ.hm; (try dsimp only at this); (first | done | omega), fun i hi => by have := hκ.hm; (try dsimp only at this); (first | omega | (dsimp only; omega) | (rw [if_neg (by omega)]))⟩ ⟨by simp, rfl⟩
      · have q3 : ((x.ms.length : Int) = 1) = False := by first | (simp only [eq_iff_iff, iff_false]; first | assumption | omega) | (simp; omega)
        refine hκ.runD 300 ?_
        simp (disch := omega) only [push_cast, simprocAttr, q1, gk, te, cm, oz, on, le, tk, t1, e00, q3]
        refine hκ.ret _ _ _ _ _ _ trivial rfl ?_
        rfl
    · obtain rfl : k = l.length := by omega
      rw [List.take_length] at h1 ⊢
      have q1 : ((l.length : Int) < l.length) = False := by first | (simp only [eq_iff_iff, iff_false]; first | assumption | omega) | (simp; omega)
      have hrl : (rowW w l).length = l.length := by simp [rowW]
      refine hκ.runA 13 300 ?_
      simp (disch := omega) only [push_cast, simprocAttr, q1]
      refine Sat.frz [1] 3 _ rfl (by first | (simp [lendPL, lendP, lendSlP, Heap.get]; done) | (simp only [lendPL, lendP, lendSlP, Heap.get, List.mem_singleton, List.mem_cons, List.not_mem_nil, or_false, or_true, true_or, Nat.reduceEqDiff, Nat.one_ne_zero, Nat.zero_ne_one, ↓reduceIte, and_true, true_and, List.length_map, List.length_append, List.length_cons, List.length_nil, List.length_replicate]; omega)) ?_
      simp only [lendL, lendS, lendSl, Heap.get, without, List.mem_singleton, List.mem_cons, List.not_mem_nil, or_false, or_true, true_or, List.drop_zero, List.take_length, List.take_succ_cons, List.take_zero, Nat.reduceAdd, Nat.reduceEqDiff, Nat.one_ne_zero, Nat.zero_ne_one, ↓reduceIte]
      rw [List.take_of_length_le (by simp)]
      by_cases he : askP l w free = 0
      rotate_left
      · rw [pickV, if_neg he] at cp
        refine hκ.run 300 ?_
        simp (disch := omega) only [push_cast, simprocAttr, q1]
        refine Does.ret hκ.hP hκ.hgl cp ⟨trivial, by first | (simp [SV.bnd, SV.bndL]; done) | (simp [SV.bnd, SV.bndL, ec_bnd]; done), by first | (simp [SV.bnd, SV.bndL]; done) | (simp [SV.bnd, SV.bndL, ec_bnd]; done) | assumption⟩ ?_
        refine hκ.run 300 ?_
        simp (disch := omega) only [push_cast, simprocAttr, he]
        refine hκ.ret _ _ _ _ _ _ trivial rfl ?_
        rfl
      rw [pickV, if_pos he] at cp
      obtain ⟨hpe, hf8⟩ := askP_zero he
      obtain ⟨hoL, hoV, hwn, hoW⟩ := pickE_zero hpe
      have hok : ∀ x ∈ l, okW w x := fun x hx => okW_of hpe hx
      obtain ⟨-, a2, a3⟩ := alone (free := free) l.length l rfl hok h1
      have hmem : ∀ y ∈ rowW w l, y ∈ w := fun y hy => by
        obtain ⟨x, hx, rfl⟩ := List.mem_map.1 hy
        exact okW_mem (hok x hx)
      have hask : askE (rowW w l) free = 0 := by
        have := okL_nodup l [] hoL List.nodup_nil
        rw [List.nil_append, ← rowW_v hok h1] at this
        rw [askE, if_pos (okWs_few hoW hmem this), if_pos hf8]
      have c1 := place_ok (rowW w l) free (fun y hy => hw y (hmem y hy)) (by omega) hf
      have c2 := waits_ok (rowW w l) free (fun y hy => hw y (hmem y hy)) (by omega) hf
      rw [placeV_ok hask, ← a2] at c1
      rw [waitsV_ok hask, ← a3] at c2
      have hPl : (pickR w free l).puts.length < 2 ^ 46 ∧ (pickR w free l).waits.length < 2 ^ 46 := by
        have := (pickR_bd w free hf8 l.length l rfl fun x hx => (okL_rng l [] hoL x hx).1.2).2
        omega
      have c3 := same_ok (pickR w free l).puts (pickR w free l).puts hPl.1
      rw [decide_eq_true rfl] at c3
      clear a2 a3
      generalize (pickR w free l).puts = P at *
      generalize (pickR w free l).waits = W at *
      generalize rowW w l = row at *
      refine hκ.run 300 ?_
      simp (disch := omega) only [push_cast, simprocAttr, q1]
      refine Does.ret hκ.hP hκ.hgl cp ⟨trivial, by first | (simp [SV.bnd, SV.bndL]; done) | (simp [SV.bnd, SV.bndL, ec_bnd]; done), by first | (simp [SV.bnd, SV.bndL]; done) | (simp [SV.bnd, SV.bndL, ec_bnd]; done) | assumption⟩ ?_
      refine hκ.run 300 ?_
      simp (disch := omega) only [push_cast, simprocAttr, q1]
      refine Does.ret hκ.hP hκ.hgl c1 ⟨trivial, by first | (simp [SV.bnd, SV.bndL]; done) | (simp [SV.bnd, SV.bndL, ec_bnd]; done), by first | (simp [SV.bnd, SV.bndL]; done) | (simp [SV.bnd, SV.bndL, ec_bnd]; done) | assumption⟩ ?_
      refine hκ.run 300 ?_
      simp (disch := omega) only [push_cast, simprocAttr, q1]
      refine Does.ret hκ.hP hκ.hgl c2 ⟨trivial, by first | (simp [SV.bnd, SV.bndL]; done) | (simp [SV.bnd, SV.bndL, ec_bnd]; done), by first | (simp [SV.bnd, SV.bndL]; done) | (simp [SV.bnd, SV.bndL, ec_bnd]; done) | assumption⟩ ?_
      refine hκ.run 300 ?_
      simp (disch := omega) only [push_cast, simprocAttr, q1]
      refine Does.ret hκ.hP hκ.hgl c3 ⟨trivial, by first | (simp [SV.bnd, SV.bndL]; done) | (simp [SV.bnd, SV.bndL, ec_bnd]; done), by first | (simp [SV.bnd, SV.bndL]; done) | (simp [SV.bnd, SV.bndL, ec_bnd]; done) | assumption⟩ ?_
      refine hκ.run 300 ?_
      simp (disch := omega) only [push_cast, simprocAttr, q1]
      refine hκ.ret _ _ _ _ _ _ trivial rfl ?_
      rfl
end Go.Proofs.YtnjgmjcokcfmkaaDoor

/- PickBack: plain law, and the walk of the law. No condition. -/
import Derived.Test.YtnjgmjcokcfmkaaDoorQs
namespace Go.Proofs.YtnjgmjcokcfmkaaDoor
open Go Go.Sy
set_option maxRecDepth 100000
set_option linter.unusedSimpArgs false
set_option linter.unusedVariables false
set_option maxHeartbeats 8000000

theorem okMs_of : ∀ (ms all pre : List Int), (∀ v ∈ ms, 1 ≤ v ∧ v ≤ 16) → (pre ++ ms).Pairwise (· < ·) → (all ++ pre ++ ms).Nodup → okMs all pre ms = true
  | [], _, _, _, _, _ => rfl
  | v :: ms, all, pre, h1, h2, h3 => by
    rw [okMs, Bool.and_eq_true]
    refine ⟨?_, okMs_of ms all (pre ++ [v]) (fun u hu => h1 u (by simp [hu])) (by rw [List.append_assoc]; exact h2) (by rw [← List.append_assoc, List.append_assoc (all ++ pre)]; exact h3)⟩
    rw [ok1M, Bool.and_eq_true, Bool.and_eq_true]
    refine ⟨decide_eq_true (h1 v (by simp)), ?_, ?_⟩
    · rw [Bool.not_eq_true', List.any_eq_false]
      intro u hu e
      exact (List.nodup_append.1 h3).2.2 u hu v (by simp) (of_decide_eq_true e)
    · rw [Bool.not_eq_true', Bool.and_eq_false_iff]
      by_cases hp : 0 < pre.length
      · right
        have := (List.pairwise_append.1 h2).2.2 (pre.getD (pre.length - 1) default) (getD_mem' (by omega)) v (by simp)
        exact decide_eq_false (by omega)
      · exact Or.inl (decide_eq_false hp)
theorem okL_of : ∀ (l : List En) (all : List Int), (∀ x ∈ l, (1 ≤ x.ms.length ∧ x.ms.length ≤ 8) ∧ (∀ v ∈ x.ms, 1 ≤ v ∧ v ≤ 16) ∧ x.ms.Pairwise (· < ·)) → (all ++ allM l).Nodup → okL all l = true
  | [], _, _, _ => rfl
  | x :: l, all, h, hn => by
    rw [okL, Bool.and_eq_true, okX, Bool.and_eq_true]
    obtain ⟨a1, a2, a3⟩ := h x (by simp)
    have hn' : (all ++ x.ms ++ allM l).Nodup := by rw [List.append_assoc]; exact hn
    exact ⟨⟨decide_eq_true a1, okMs_of _ _ _ a2 (by simpa using a3) (by rw [List.append_nil]; exact (List.nodup_append.1 hn').1)⟩, okL_of l _ (fun y hy => h y (by simp [hy])) hn'⟩
theorem okV_of : ∀ (w : List Wi) (all : List Int) (pre : List Wi), ((pre ++ w).map Wi.v).Pairwise (· < ·) → (∀ x ∈ w, x.v ∈ all) → okV all pre w = true
  | [], _, _, _, _ => rfl
  | y :: w, all, pre, h1, h2 => by
    rw [okV, Bool.and_eq_true]
    refine ⟨?_, okV_of w all (pre ++ [y]) (by rw [List.append_assoc]; exact h1) (fun x hx => h2 x (by simp [hx]))⟩
    rw [ok1V, Bool.and_eq_true]
    refine ⟨List.any_eq_true.2 ⟨y.v, h2 y (by simp), decide_eq_true rfl⟩, ?_⟩
    rw [Bool.not_eq_true', Bool.and_eq_false_iff]
    by_cases hp : 0 < pre.length
    · right
      rw [List.map_append, List.pairwise_append] at h1
      have := h1.2.2 _ (List.mem_map_of_mem (getD_mem' (show pre.length - 1 < pre.length by omega))) y.v (by simp)
      exact decide_eq_false (by omega)
    · exact Or.inl (decide_eq_false hp)
theorem allM_mid (a b : List En) (x : En) : allM (a ++ x :: b) = allM a ++ (x.ms ++ allM b) := by simp [allM]
theorem allM_app (a b : List En) : allM (a ++ b) = allM a ++ allM b := by simp [allM]
/-- Without an entity there may still be picked. -/
theorem pickE_less {a b : List En} {x : En} {w : List Wi} (hp : pickE (a ++ x :: b) w = 0) : pickE (a ++ b) (wW w x.ms) = 0 := by
  obtain ⟨h1, h2, h3, h4⟩ := pickE_zero hp
  have nd := okL_nodup _ [] h1 List.nodup_nil
  rw [List.nil_append, allM_mid] at nd
  obtain ⟨r1, r2⟩ := okV_rise w _ [] h2 List.Pairwise.nil
  rw [List.nil_append] at r1
  have ndw : (w.map Wi.v).Nodup := r1.imp (fun h => by omega)
  have hsub : ∀ y ∈ a ++ b, y ∈ a ++ x :: b := fun y hy => by
    rcases List.mem_append.1 hy with hy | hy
    · simp [hy]
    · simp [hy]
  obtain ⟨n1, n2, n3⟩ := List.nodup_append.1 nd
  obtain ⟨m1, m2, m3⟩ := List.nodup_append.1 n2
  have nd' : (allM (a ++ b)).Nodup := by
    rw [allM_app, List.nodup_append]
    exact ⟨n1, m2, fun u hu v hv => n3 u hu v (List.mem_append_right _ hv)⟩
  have hin : ∀ y ∈ wW w x.ms, y.v ∈ allM (a ++ b) := fun y hy => by
    obtain ⟨hyw, hyn⟩ := List.mem_filter.1 hy
    have hyn : ¬ y.v ∈ x.ms := by simpa using hyn
    have := r2 y hyw
    rw [allM_mid] at this
    rw [allM_app]
    rcases List.mem_append.1 this with h | h
    · exact List.mem_append_left _ h
    · rcases List.mem_append.1 h with h | h
      · exact absurd h hyn
      · exact List.mem_append_right _ h
  have hout : ∀ v ∈ allM (a ++ b), v ∈ (wW w x.ms).map Wi.v := fun v hv => by
    obtain ⟨y, hy, hvy⟩ := List.mem_flatMap.1 hv
    have e := wsh_v h1 h2 h3 (hsub y hy)
    rw [← e] at hvy
    obtain ⟨u, hu, rfl⟩ := List.mem_map.1 hvy
    refine List.mem_map_of_mem (List.mem_filter.2 ⟨(List.mem_filter.1 hu).1, ?_⟩)
    have : u.v ∉ x.ms := fun hx => by
      rw [allM_app] at hv
      rcases List.mem_append.1 hv with h | h
      · exact n3 _ h _ (List.mem_append_left _ hx) rfl
      · exact m3 _ hx _ h rfl
    simpa using this
  have hsl : (wW w x.ms).Sublist w := List.filter_sublist
  have nd2 : ((wW w x.ms).map Wi.v).Nodup := List.Pairwise.sublist (hsl.map _) ndw
  have hlen : (wW w x.ms).length = (allM (a ++ b)).length := by
    have l1 := nodup_sub _ _ nd2 (fun v hv => by
      obtain ⟨y, hy, rfl⟩ := List.mem_map.1 hv
      exact hin y hy)
    have l2 := nodup_sub _ _ nd' hout
    rw [List.length_map] at l1 l2
    omega
  have k1 : okL [] (a ++ b) = true := okL_of _ _ (fun y hy => by
    have := okL_rng _ _ h1 y (hsub y hy)
    exact ⟨this.1, this.2, okL_rise _ _ h1 y (hsub y hy)⟩) (by rw [List.nil_append]; exact nd')
  have k2 : okV (allM (a ++ b)) [] (wW w x.ms) = true := okV_of _ _ _ (by rw [List.nil_append]; exact List.Pairwise.sublist (hsl.map _) r1) hin
  have k3 : okWs [] (wW w x.ms) = true := okWs_few h4 (fun y hy => hsl.subset hy) nd2
  rw [pickE, k1, k2, k3, decide_eq_true hlen]
  rfl
theorem wsh_less {w : List Wi} {ms G : List Int} (h : ∀ v ∈ ms, v ∉ G) : wsh (wW w G) ms = wsh w ms := by
  rw [wsh, wW, List.filter_filter, wsh]
  apply List.filter_congr
  intro y _
  by_cases hy : y.v ∈ ms
  · simp [hy, h _ hy]
  · simp [hy]
theorem fold_congr {w w' : List Wi} : ∀ (b : List En) (st : PRun), (∀ y ∈ b, wsh w' y.ms = wsh w y.ms) → b.foldl (stepK w') st = b.foldl (stepK w) st
  | [], _, _ => rfl
  | y :: b, st, h => by
    rw [List.foldl_cons, List.foldl_cons, show stepK w' st y = stepK w st y by rw [stepK, stepK, h y (by simp)]]
    exact fold_congr b _ fun z hz => h z (by simp [hz])
theorem fold_waits {w : List Wi} : ∀ (b : List En) (f : Nat) (p : List (Int × Int)) (u v : List Int), (b.foldl (stepK w) ⟨f, p, u⟩).puts = (b.foldl (stepK w) ⟨f, p, v⟩).puts
  | [], _, _, _, _ => rfl
  | y :: b, f, p, u, v => by
    rw [List.foldl_cons, List.foldl_cons, stepK, stepK]
    dsimp only
    cases tkO (wsh w y.ms) f with
    | none => exact fold_waits b _ _ _ _
    | some at' => exact fold_waits b _ _ _ _
theorem disj {a b : List En} {x : En} {w : List Wi} (hp : pickE (a ++ x :: b) w = 0) : ∀ y ∈ a ++ b, ∀ v ∈ y.ms, v ∉ x.ms := by
  obtain ⟨h1, -, -, -⟩ := pickE_zero hp
  have nd := okL_nodup _ [] h1 List.nodup_nil
  rw [List.nil_append, allM_mid] at nd
  obtain ⟨n1, n2, n3⟩ := List.nodup_append.1 nd
  obtain ⟨m1, m2, m3⟩ := List.nodup_append.1 n2
  intro y hy v hv hx
  rcases List.mem_append.1 hy with h | h
  · exact n3 v (List.mem_flatMap.2 ⟨y, h, hv⟩) v (List.mem_append_left _ hx) rfl
  · exact m3 v hx v (List.mem_flatMap.2 ⟨y, h, hv⟩) rfl
/-- Who waits takes nothing. -/
theorem puts_less {a b : List En} {x : En} {w : List Wi} {free : Nat} (hp : pickE (a ++ x :: b) w = 0) (ho : tkO (wsh w x.ms) (pickR w free a).free = none) : (pickR (wW w x.ms) free (a ++ b)).puts = (pickR w free (a ++ x :: b)).puts := by
  have hd := disj hp
  rw [pickR, fold_congr (w := w) _ _ (fun y hy => wsh_less (hd y hy)), List.foldl_append, pickR, List.foldl_append, List.foldl_cons]
  rw [pickR] at ho
  generalize a.foldl (stepK w) ⟨free, [], []⟩ = st at *
  obtain ⟨f, p, u⟩ := st
  dsimp only at ho
  rw [show stepK w ⟨f, p, u⟩ x = ⟨f, p, u ++ x.ms⟩ by rw [stepK, ho]]
  exact fold_waits _ _ _ _ _
/-- One more at the end changes nothing for those ahead. -/
theorem puts_back {a : List En} {x : En} {w : List Wi} {free : Nat} (hp : pickE (a ++ [x]) w = 0) : ∃ t, (pickR w free (a ++ [x])).puts = (pickR (wW w x.ms) free a).puts ++ t := by
  have hd := disj (b := []) hp
  rw [List.append_nil] at hd
  rw [pickR, pickR, fold_congr (w := w) _ _ (fun y hy => wsh_less (hd y hy)), List.foldl_append]
  obtain ⟨t, s, e, -, -, -⟩ := fold_puts w [x] (a.foldl (stepK w) ⟨free, [], []⟩)
  exact ⟨t, e⟩
theorem askP_of {l : List En} {w : List Wi} {free : Nat} (h : pickE l w = 0) (hf : free < 256) : askP l w free = 0 := by rw [askP, if_pos h, if_pos hf]
theorem back_law (l : List En) (w : List Wi) (free : Nat) (hl : ∀ x ∈ l, inE0 x) (hw : ∀ x ∈ w, inW x) (hn : l.length < 2 ^ 46) (hn2 : w.length < 2 ^ 46) (hf : free < 4294967296) : Law Tryd.prog gl0 5 [Ak l w free] := by
  have co := over_ok l w free hn hn2
  refine Law.of (nt := 116) (res := [.tmp 2]) Tryd.mixed Tryd.func5 rfl rfl rfl rfl fun κ xc hκ => hκ.run 300 ?_
  simp (disch := omega) only [push_cast, simprocAttr]
  refine Does.ret hκ.hP hκ.hgl (wakes_ok) ⟨trivial, by first | (simp [SV.bnd, SV.bndL]; done) | (simp [SV.bnd, SV.bndL, ec_bnd]; done), by first | (simp [SV.bnd, SV.bndL]; done) | (simp [SV.bnd, SV.bndL, ec_bnd]; done) | assumption⟩ ?_
  refine hκ.run 300 ?_
  simp (disch := omega) only [push_cast, simprocAttr]
  refine Does.ret hκ.hP hκ.hgl co ⟨trivial, by first | (simp [SV.bnd, SV.bndL]; done) | (simp [SV.bnd, SV.bndL, ec_bnd]; done), by first | (simp [SV.bnd, SV.bndL]; done) | (simp [SV.bnd, SV.bndL, ec_bnd]; done) | assumption⟩ ?_
  cases hov : overB l w
  rotate_left
  · refine hκ.run 300 ?_
    simp (disch := omega) only [push_cast, simprocAttr]
    refine hκ.ret _ _ _ _ _ _ trivial rfl ?_
    rfl
  obtain ⟨b1, b2, b3⟩ := over_bd hov
  have hl' : ∀ x ∈ l, inE x := fun x hx => ⟨(hl x hx).1, by have := b3 x hx; omega⟩
  have cp := Pick_ok l w free hl' hw (by omega) (by omega) hf
  refine hκ.run 300 ?_
  simp (disch := omega) only [push_cast, simprocAttr]
  by_cases he : askP l w free = 0
  rotate_left
  · rw [pickV, if_neg he] at cp
    refine Does.ret hκ.hP hκ.hgl cp ⟨trivial, by first | (simp [SV.bnd, SV.bndL]; done) | (simp [SV.bnd, SV.bndL, ec_bnd]; done), by first | (simp [SV.bnd, SV.bndL]; done) | (simp [SV.bnd, SV.bndL, ec_bnd]; done) | assumption⟩ ?_
    refine hκ.run 300 ?_
    simp (disch := omega) only [push_cast, simprocAttr, he]
    refine hκ.ret _ _ _ _ _ _ trivial rfl ?_
    rfl
  rw [pickV, if_pos he] at cp
  refine Does.ret hκ.hP hκ.hgl cp ⟨trivial, by first | (simp [SV.bnd, SV.bndL]; done) | (simp [SV.bnd, SV.bndL, ec_bnd]; done), by first | (simp [SV.bnd, SV.bndL]; done) | (simp [SV.bnd, SV.bndL, ec_bnd]; done) | assumption⟩ ?_
  obtain ⟨hpe, hf8⟩ := askP_zero he
  obtain ⟨hoL, hoV, hwn, hoW⟩ := pickE_zero hpe
  have hPl : (pickR w free l).puts.length < 2 ^ 46 := by
    have := (pickR_bd w free hf8 l.length l rfl fun x hx => (okL_rng l [] hoL x hx).1.2).2
    omega
  have hop := fun k hk j hj => on_pick (free := free) hpe (k := k) hk (j := j) hj
  have cs : ∀ k, k < l.length → Con Tryd.prog gl0 (fnv 13) [Ens (l.eraseIdx k), Ws (wW w (l.getD k default).ms), S free] 0 [] (Ret (.tup [Ps (pickR (wW w (l.getD k default).ms) free (l.eraseIdx k)).puts, Is (pickR (wW w (l.getD k default).ms) free (l.eraseIdx k)).waits, I 0])) := fun k hk => by
    have c := Pick_ok (l.eraseIdx k) (wW w (l.getD k default).ms) free (fun x hx => hl' x ((List.eraseIdx_sublist l k).subset hx)) (fun y hy => hw y (List.mem_filter.1 hy).1) (by have := List.length_eraseIdx_le l k; omega) (by have := List.length_filter_le (fun y : Wi => !decide (y.v ∈ (l.getD k default).ms)) w; rw [wW]; omega) hf
    have e := split_at hk
    rw [List.eraseIdx_eq_take_drop_succ] at c ⊢
    have hp2 := hpe
    rw [e] at hp2
    rwa [pickV, if_pos (askP_of (pickE_less hp2) hf8)] at c
  have hless : ∀ k, k < l.length → tkO (wsh w (l.getD k default).ms) (pickR w free (l.take k)).free = none → (pickR (wW w (l.getD k default).ms) free (l.eraseIdx k)).puts = (pickR w free l).puts := fun k hk ho => by
    have e := split_at hk
    rw [List.eraseIdx_eq_take_drop_succ]
    have hp2 := hpe
    rw [e] at hp2
    have := puts_less hp2 ho
    rwa [← e] at this
  have hback : ∀ k, l.length = k + 1 → ∃ t, (pickR w free l).puts = (pickR (wW w (l.getD k default).ms) free (l.eraseIdx k)).puts ++ t := fun k hk => by
    have e := split_at (show k < l.length by omega)
    rw [List.eraseIdx_eq_take_drop_succ]
    rw [List.drop_of_length_le (by omega)] at e ⊢
    rw [List.append_nil]
    have hp2 := hpe
    rw [e] at hp2
    have := puts_back (free := free) hp2
    rwa [← e] at this
  have c3 := same_ok (pickR w free l).puts (pickR w free l).puts hPl
  rw [decide_eq_true rfl] at c3
  have hwo := fun n hnl => without_ok l w free n hl (by omega) (by omega) hnl
  generalize (pickR w free l).puts = P at *
  refine hκ.run 300 ?_
  simp (disch := omega) only [push_cast, simprocAttr]
  refine Sat.less (Sat.loop (γ := Nat) (fun k => ([(40, I k), (39, I l.length), (38, Ens l), (3, Ps P), (1, .ptr 0 0 0 0)], [(0, .own [Ens l, Ws w, S free] 27)], 1)) (fun k => l.length - k) (fun k => k ≤ l.length) ?round 0 (Nat.zero_le _)) (by repeat' (first | exact EnvSub.nil _ | exact HeapSub.nil _ | refine EnvSub.cons rfl ?_ | refine HeapSub.cons rfl ?_ | (refine EnvSub.cons (by simp [Env.get]; done) ?_) | (refine HeapSub.cons (by simp [Heap.get]; done) ?_))) (by repeat' (first | exact EnvSub.nil _ | exact HeapSub.nil _ | refine EnvSub.cons rfl ?_ | refine HeapSub.cons rfl ?_ | (refine EnvSub.cons (by simp [Env.get]; done) ?_) | (refine HeapSub.cons (by simp [Heap.get]; done) ?_)))
  case round =>
    intro k hk ih
    dsimp only at hk ih ⊢
    by_cases hkl : k < l.length
    · have q1 : ((k : Int) < l.length) = True := by first | (simp only [eq_iff_iff, iff_true]; first | assumption | omega) | (simp; omega)
      have e00 : (0 ≤ (k : Int)) = True := by first | (simp only [eq_iff_iff, iff_true]; first | assumption | omega) | (simp; omega)
      have gk : (List.map eEn l).getD k [] = eEn (l.getD k default) := getD_map _ _ _ hkl
      have hop := fun j hj => hop k hkl j hj
      have cs := cs k hkl
      have hless := hless k hkl
      have hwo := hwo k hkl
      obtain ⟨hx8, -⟩ := okL_rng l [] hoL _ (getD_mem' hkl)
      have hz := ih (k + 1) (by omega) (by omega)
      clear ih hback
      generalize l.getD k default = x at *
      have te : takeN (eEn x) 6 = some (eEn x) := rfl
      have cm : cut (eEn x) 0 1 = some [Is x.ms] := rfl
      have t1 : takeN (eEn x) 1 = some [Is x.ms] := rfl
      have oz : over [.v (.slice none 0 0), .v (.int .u64 0), .v (.int .u64 0), .v (.int .u64 0), .v (.int .u64 0), Bo false] (eEn x) = some (eEn x) := rfl
      have on : ones (eEn x) := ⟨trivial, rfl, rfl, rfl, rfl, rfl, trivial⟩
      have le : (eEn x).length = 6 := rfl
      have tk : List.take 6 (eEn x) = eEn x := rfl
      have g0 : (List.map (eI .i64) x.ms).getD 0 [] = eI .i64 (x.ms.getD 0 default) := getD_map _ _ _ (by omega)
      have q0 : (0 < (x.ms.length : Int)) = True := by first | (simp only [eq_iff_iff, iff_true]; first | assumption | omega) | (simp; omega)
      have c0 := On_ok P (x.ms.getD 0 default) hPl
      rw [hop 0 (by omega)] at c0
      refine hκ.runD 300 ?_
      simp (disch := omega) only [push_cast, simprocAttr, q1, gk, te, cm, oz, on, le, tk, g0, t1, e00, q0]
      cases ho : tkO (wsh w x.ms) (pickR w free (l.take k)).free with
      | some at' =>
        rw [ho] at c0
        dsimp only [Option.map_some, Option.getD_some, Option.isSome_some] at c0
        refine Does.ret hκ.hP hκ.hgl c0 ⟨trivial, by first | (simp [SV.bnd, SV.bndL]; done) | (simp [SV.bnd, SV.bndL, ec_bnd]; done), by first | (simp [SV.bnd, SV.bndL]; done) | (simp [SV.bnd, SV.bndL, ec_bnd]; done) | assumption⟩ ?_
        refine hκ.run 300 ?_
        simp (disch := omega) only [push_cast, simprocAttr, q1, gk, te, cm, oz, on, le, tk, g0, t1, e00, q0]
        refine Sat.via (fun i => i) (hz) (by intro i j; (repeat (first | omega | split))) (by repeat' (first | exact EnvVia.nil | refine EnvVia.cons (by first | trivial | decide | (simp [SV.bnd, SV.bndL]; done)) rfl ?_)) (by repeat' (first | exact HeapVia.nil | refine HeapVia.cons (by decide) (by first | trivial | exact Blk.bnd_own0 (by assumption) | (simp [Blk.bnd, SV.bnd, SV.bndL]; done) | exact bndL_mapV _ _ _ | exact LR.bnd (by rw [l2]; simp [bndE, SV.bnd, SV.bndL]) (by rw [l6]; decide)) (by first | (rw [Blk.ren_own0 (by assumption)]; rfl) | rfl | (simp only [Blk.ren, renL_mapV]; rfl) | (rw [LR.ren (by rw [l2] <;> rfl) (by rw [l6] <;> rfl)]; rfl)) ?_)) ⟨by have := hκ.hm; (try dsimp only at this); (first | done | omega), fun i hi => by have := hκ.hm; (try dsimp only at this); (first | omega | (dsimp only; omega) | (rw [if_neg (by omega)]))⟩ ⟨by simp, rfl⟩
      | none =>
        rw [ho] at c0
        dsimp only [Option.map_none, Option.getD_none, Option.isSome_none] at c0
        have hl2 := hless ho
        rw [hl2] at cs
        generalize (pickR (wW w x.ms) free (l.eraseIdx k)).waits = W2 at *
        clear hless hl2
        generalize l.eraseIdx k = l2 at *
        generalize wW w x.ms = w2 at *
        refine Does.ret hκ.hP hκ.hgl c0 ⟨trivial, by first | (simp [SV.bnd, SV.bndL]; done) | (simp [SV.bnd, SV.bndL, ec_bnd]; done), by first | (simp [SV.bnd, SV.bndL]; done) | (simp [SV.bnd, SV.bndL, ec_bnd]; done) | assumption⟩ ?_
        refine hκ.run 300 ?_
        simp (disch := omega) only [push_cast, simprocAttr, q1, gk, te, cm, oz, on, le, tk, g0, t1, e00, q0]
        refine Does.ret hκ.hP hκ.hgl hwo ⟨trivial, by first | (simp [SV.bnd, SV.bndL]; done) | (simp [SV.bnd, SV.bndL, ec_bnd]; done), by first | (simp [SV.bnd, SV.bndL]; done) | (simp [SV.bnd, SV.bndL, ec_bnd]; done) | assumption⟩ ?_
        refine hκ.run 300 ?_
        simp (disch := omega) only [push_cast, simprocAttr, q1, gk, te, cm, oz, on, le, tk, g0, t1, e00, q0]
        refine Does.ret hκ.hP hκ.hgl cs ⟨trivial, by first | (simp [SV.bnd, SV.bndL]; done) | (simp [SV.bnd, SV.bndL, ec_bnd]; done), by first | (simp [SV.bnd, SV.bndL]; done) | (simp [SV.bnd, SV.bndL, ec_bnd]; done) | assumption⟩ ?_
        refine hκ.run 300 ?_
        simp (disch := omega) only [push_cast, simprocAttr, q1, gk, te, cm, oz, on, le, tk, g0, t1, e00, q0]
        refine Does.ret hκ.hP hκ.hgl c3 ⟨trivial, by first | (simp [SV.bnd, SV.bndL]; done) | (simp [SV.bnd, SV.bndL, ec_bnd]; done), by first | (simp [SV.bnd, SV.bndL]; done) | (simp [SV.bnd, SV.bndL, ec_bnd]; done) | assumption⟩ ?_
        refine hκ.run 300 ?_
        simp (disch := omega) only [push_cast, simprocAttr, q1, gk, te, cm, oz, on, le, tk, g0, t1, e00, q0]
        refine Sat.via (fun i => i) (hz) (by intro i j; (repeat (first | omega | split))) (by repeat' (first | exact EnvVia.nil | refine EnvVia.cons (by first | trivial | decide | (simp [SV.bnd, SV.bndL]; done)) rfl ?_)) (by repeat' (first | exact HeapVia.nil | refine HeapVia.cons (by decide) (by first | trivial | exact Blk.bnd_own0 (by assumption) | (simp [Blk.bnd, SV.bnd, SV.bndL]; done) | exact bndL_mapV _ _ _ | exact LR.bnd (by rw [l2]; simp [bndE, SV.bnd, SV.bndL]) (by rw [l6]; decide)) (by first | (rw [Blk.ren_own0 (by assumption)]; rfl) | rfl | (simp only [Blk.ren, renL_mapV]; rfl) | (rw [LR.ren (by rw [l2] <;> rfl) (by rw [l6] <;> rfl)]; rfl)) ?_)) ⟨by have := hκ.hm; (try dsimp only at this); (first | done | omega), fun i hi => by have := hκ.hm; (try dsimp only at this); (first | omega | (dsimp only; omega) | (rw [if_neg (by omega)]))⟩ ⟨by simp, rfl⟩
    · obtain rfl : k = l.length := by omega
      have q1 : ((l.length : Int) < l.length) = False := by first | (simp only [eq_iff_iff, iff_false]; first | assumption | omega) | (simp; omega)
      by_cases h0 : l.length = 0
      · have q2 : ((l.length : Int) = 0) = True := by first | (simp only [eq_iff_iff, iff_true]; first | assumption | omega) | (simp; omega)
        refine hκ.run 300 ?_
        simp (disch := omega) only [push_cast, simprocAttr, q1, q2]
        refine hκ.ret _ _ _ _ _ _ trivial rfl ?_
        rfl
      · have q2 : ((l.length : Int) = 0) = False := by first | (simp only [eq_iff_iff, iff_false]; first | assumption | omega) | (simp; omega)
        obtain ⟨m, hm⟩ : ∃ m, l.length = m + 1 := ⟨l.length - 1, by omega⟩
        have es : (l.length : Int) - 1 = (m : Int) := by omega
        obtain ⟨t, ht⟩ := hback m hm
        have cs := cs m (by omega)
        have hwo := hwo m (by omega)
        clear hless hback
        generalize (pickR (wW w (l.getD m default).ms) free (l.eraseIdx m)).waits = W2 at *
        generalize (pickR (wW w (l.getD m default).ms) free (l.eraseIdx m)).puts = P2 at *
        generalize l.eraseIdx m = l2 at *
        generalize wW w (l.getD m default).ms = w2 at *
        subst ht
        have c4 := same_ok P2 P2 (by rw [List.length_append] at hPl; omega)
        rw [decide_eq_true rfl] at c4
        have tkp : List.take P2.length (List.map eP (P2 ++ t)) = List.map eP P2 := by
          rw [List.map_append, List.take_left']
          exact List.length_map _
        have q3 : ((P2.length : Int) ≤ (P2.length : Int) + (t.length : Int)) = True := by first | (simp only [eq_iff_iff, iff_true]; first | assumption | omega) | (simp; omega)
        refine hκ.run 300 ?_
        simp (disch := omega) only [push_cast, simprocAttr, q1, q2, es, q3, tkp]
        refine Does.ret hκ.hP hκ.hgl hwo ⟨trivial, by first | (simp [SV.bnd, SV.bndL]; done) | (simp [SV.bnd, SV.bndL, ec_bnd]; done), by first | (simp [SV.bnd, SV.bndL]; done) | (simp [SV.bnd, SV.bndL, ec_bnd]; done) | assumption⟩ ?_
        refine hκ.run 300 ?_
        simp (disch := omega) only [push_cast, simprocAttr, q1, q2, es, q3, tkp]
        refine Does.ret hκ.hP hκ.hgl cs ⟨trivial, by first | (simp [SV.bnd, SV.bndL]; done) | (simp [SV.bnd, SV.bndL, ec_bnd]; done), by first | (simp [SV.bnd, SV.bndL]; done) | (simp [SV.bnd, SV.bndL, ec_bnd]; done) | assumption⟩ ?_
        refine hκ.run 300 ?_
        simp (disch := omega) only [push_cast, simprocAttr, q1, q2, es, q3, tkp]
        refine ⟨by omega, fun _ => ?_⟩
        refine Does.ret hκ.hP hκ.hgl c4 ⟨trivial, by first | (simp [SV.bnd, SV.bndL]; done) | (simp [SV.bnd, SV.bndL, ec_bnd]; done), by first | (simp [SV.bnd, SV.bndL]; done) | (simp [SV.bnd, SV.bndL, ec_bnd]; done) | assumption⟩ ?_
        refine hκ.run 300 ?_
        simp (disch := omega) only [push_cast, simprocAttr, q1, q2, es, q3, tkp]
        refine hκ.ret _ _ _ _ _ _ trivial rfl ?_
        rfl
end Go.Proofs.YtnjgmjcokcfmkaaDoor

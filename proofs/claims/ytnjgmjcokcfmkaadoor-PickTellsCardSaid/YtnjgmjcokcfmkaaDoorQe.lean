/- Who runs where: pick.Pick. No condition. -/
import Derived.Test.YtnjgmjcokcfmkaaDoorQd
namespace Go.Proofs.YtnjgmjcokcfmkaaDoor
open Go Go.Sy
set_option maxRecDepth 100000
set_option linter.unusedSimpArgs false
set_option linter.unusedVariables false
set_option maxHeartbeats 4000000

structure PRun where
  free : Nat
  puts : List (Int × Int)
  waits : List Int
def less (s : Nat) (l : List Int) : Nat := l.foldl (fun s c => dif s (2 ^ c.toNat)) s
def stepK (w : List Wi) (st : PRun) (x : En) : PRun := match tkO (wsh w x.ms) st.free with
  | some at' => ⟨less st.free at', st.puts ++ x.ms.zip at', st.waits⟩
  | none => ⟨st.free, st.puts, st.waits ++ x.ms⟩
def pickR (w : List Wi) (free : Nat) (l : List En) : PRun := l.foldl (stepK w) ⟨free, [], []⟩
def askP (l : List En) (w : List Wi) (free : Nat) : Int := if pickE l w = 0 then (if free < 256 then 0 else 140) else pickE l w
def pickV (l : List En) (w : List Wi) (free : Nat) : SV := if askP l w free = 0 then .tup [Ps (pickR w free l).puts, Is (pickR w free l).waits, I 0] else .tup [nilS, nilS, I (askP l w free)]
theorem pickE_zero {l : List En} {w : List Wi} (h : pickE l w = 0) : okL [] l = true ∧ okV (allM l) [] w = true ∧ w.length = (allM l).length ∧ okWs [] w = true := by
  rw [pickE] at h
  split at h
  · rename_i h1
    simp only [Bool.and_eq_true, decide_eq_true_eq] at h1
    split at h
    · exact ⟨h1.1, h1.2.1, h1.2.2, by assumption⟩
    · exact absurd h (by decide)
  · exact absurd h (by decide)
theorem askP_zero {l : List En} {w : List Wi} {free : Nat} (h : askP l w free = 0) : pickE l w = 0 ∧ free < 256 := by
  rw [askP] at h
  split at h
  · split at h
    · exact ⟨by assumption, by assumption⟩
    · exact absurd h (by decide)
  · rename_i hx; exact absurd h hx
theorem less_le : ∀ (l : List Int) (s : Nat), less s l ≤ s
  | [], s => Nat.le_refl _
  | c :: l, s => Nat.le_trans (less_le l _) (dif_le _ _)
theorem less_snoc (s : Nat) (l : List Int) (c : Int) : less s (l ++ [c]) = dif (less s l) (2 ^ c.toNat) := by simp [less, List.foldl_append]
theorem pickR_take {w : List Wi} {free : Nat} {l : List En} {k : Nat} (h : k < l.length) : pickR w free (l.take (k + 1)) = stepK w (pickR w free (l.take k)) (l.getD k default) := by
  rw [List.take_succ_eq_append_getElem h, pickR, List.foldl_append, List.foldl_cons, List.foldl_nil]
  simp [List.getD, h, pickR]
theorem pickR_bd (w : List Wi) (free : Nat) (hf : free < 256) : ∀ (n : Nat) (l : List En), l.length = n → (∀ x ∈ l, x.ms.length ≤ 8) → (pickR w free l).free < 256 ∧ (pickR w free l).puts.length ≤ 8 * n ∧ (pickR w free l).waits.length ≤ 8 * n := by
  intro n
  induction n with
  | zero => intro l h _; rw [List.eq_nil_of_length_eq_zero h]; exact ⟨hf, Nat.zero_le _, Nat.zero_le _⟩
  | succ n ih =>
    intro l h h8
    obtain ⟨l', x, rfl⟩ : ∃ l' x, l = l' ++ [x] := by
      rcases List.eq_nil_or_concat l with rfl | ⟨l', x, rfl⟩
      · simp at h
      · exact ⟨l', x, by simp⟩
    obtain ⟨i1, i2, i3⟩ := ih l' (by simpa using h) fun y hy => h8 y (by simp [hy])
    have hx := h8 x (by simp)
    rw [pickR, List.foldl_append, List.foldl_cons, List.foldl_nil, show l'.foldl (stepK w) ⟨free, [], []⟩ = pickR w free l' from rfl, stepK]
    split
    · refine ⟨Nat.lt_of_le_of_lt (less_le _ _) i1, ?_, by dsimp only; omega⟩
      dsimp only
      rw [List.length_append, List.length_zip]
      have := Nat.min_le_left x.ms.length (List.length ‹List Int›)
      omega
    · exact ⟨i1, by dsimp only; omega, by dsimp only; rw [List.length_append]; omega⟩
theorem pasked_ok (l : List En) (w : List Wi) (free : Nat) (hl : ∀ x ∈ l, inE x) (hw : ∀ x ∈ w, inW x) (hn : l.length < 2 ^ 40) (hn2 : w.length < 2 ^ 40) (hf : free < 4294967296) : Con Tryd.prog gl0 (fnv 41) [Ens l, Ws w, S free] 0 [] (Ret (I (askP l w free))) := by
  have c1 := Check_ok l w hl hw hn hn2
  have c2 := check_ok free hf
  have ha : askP l w free = if pickE l w = 0 then (if free < 256 then 0 else 140) else pickE l w := rfl
  rw [ha]
  clear ha
  generalize pickE l w = e at *
  refine Con.of Tryd.ok41 (nt := 16) (res := [.tmp 6]) Tryd.mixed Tryd.func41 rfl rfl rfl rfl fun κ xc hκ => hκ.run 300 ?_
  simp (disch := omega) only [push_cast, simprocAttr]
  refine Does.ret hκ.hP hκ.hgl c1 ⟨trivial, by first | (simp [SV.bnd, SV.bndL]; done) | (simp [SV.bnd, SV.bndL, ec_bnd]; done), by first | (simp [SV.bnd, SV.bndL]; done) | (simp [SV.bnd, SV.bndL, ec_bnd]; done) | assumption⟩ ?_
  by_cases he : e = 0
  · rw [if_pos he] at hκ
    refine hκ.run 300 ?_
    simp (disch := omega) only [push_cast, simprocAttr, he]
    refine Does.ret hκ.hP hκ.hgl c2 ⟨trivial, by first | (simp [SV.bnd, SV.bndL]; done) | (simp [SV.bnd, SV.bndL, ec_bnd]; done), by first | (simp [SV.bnd, SV.bndL]; done) | (simp [SV.bnd, SV.bndL, ec_bnd]; done) | assumption⟩ ?_
    refine hκ.run 300 ?_
    simp (disch := omega) only [push_cast, simprocAttr, he]
    refine hκ.ret _ _ _ _ _ _ trivial rfl ?_
    exact .ret trivial
  · rw [if_neg he] at hκ
    refine hκ.run 300 ?_
    simp (disch := omega) only [push_cast, simprocAttr, he]
    refine hκ.ret _ _ _ _ _ _ trivial rfl ?_
    exact .ret trivial
theorem Pick_ok (l : List En) (w : List Wi) (free : Nat) (hl : ∀ x ∈ l, inE x) (hw : ∀ x ∈ w, inW x) (hn : l.length < 2 ^ 40) (hn2 : w.length < 2 ^ 40) (hf : free < 4294967296) : Con Tryd.prog gl0 (fnv 13) [Ens l, Ws w, S free] 0 [] (Ret (pickV l w free)) := by
  have c1 := pasked_ok l w free hl hw hn hn2 hf
  have hV : pickV l w free = if askP l w free = 0 then .tup [Ps (pickR w free l).puts, Is (pickR w free l).waits, I 0] else .tup [nilS, nilS, I (askP l w free)] := rfl
  rw [hV]
  clear hV
  refine Con.of Tryd.ok13 (nt := 55) (res := [.tmp 6, .tmp 7, .tmp 8]) Tryd.mixed Tryd.func13 rfl rfl rfl rfl fun κ xc hκ => hκ.run 300 ?_
  simp (disch := omega) only [push_cast, simprocAttr]
  refine Does.ret hκ.hP hκ.hgl c1 ⟨trivial, by first | (simp [SV.bnd, SV.bndL]; done) | (simp [SV.bnd, SV.bndL, ec_bnd]; done), by first | (simp [SV.bnd, SV.bndL]; done) | (simp [SV.bnd, SV.bndL, ec_bnd]; done) | assumption⟩ ?_
  by_cases he : askP l w free = 0
  · rw [if_pos he] at hκ
    obtain ⟨hpe, hf8⟩ := askP_zero he
    obtain ⟨hoL, hoV, hwn, hoW⟩ := pickE_zero hpe
    refine hκ.run 300 ?_
    simp (disch := omega) only [push_cast, simprocAttr, he]
    refine Does.inl hκ.hP hκ.hgl Tryd.ok42 (nt := 8) (res := [.tmp 6]) Tryd.mixed Tryd.func42 rfl rfl rfl rfl fun κ_h1 x_h1 h1 => h1.run 300 ?_
    simp (disch := omega) only [push_cast, simprocAttr, he]
    refine h1.ret _ _ _ _ _ _ trivial rfl ?_
    refine hκ.run 300 ?_
    simp (disch := omega) only [push_cast, simprocAttr, he]
    refine hκ.rangeL rfl fun L l1 l2 l3 l4 l5 l6 => ?_
    refine Does.inlc rfl hκ.hgl Tryd.ok69 (nt := 45) (res := []) Tryd.mixed Tryd.func69 rfl rfl rfl rfl fun κ_h4 x_h4 h4 => h4.run 300 ?_
    simp (disch := omega) only [push_cast, simprocAttr, he]
    refine Sat.nilCell 0 2 68 30 [] [] rfl ?_
    simp only [Heap.set, List.nil_append, Nat.reduceEqDiff, ↓reduceIte]
    refine Sat.nilCell 1 1 3 31 [] [] rfl ?_
    simp only [Heap.set, List.nil_append, Nat.reduceEqDiff, ↓reduceIte]
    refine Sat.less (Sat.loop (γ := Nat × Nat × Nat) (fun g => ([(13, I g.1), (12, I l.length), (11, Ens l), (0, .yl 6), (1, .ptr 2 0 0 0), (2, .ptr 3 0 0 0), (3, .ptr 4 0 0 0)],
      [(6, L.blk .ready none), (5, .obj (.deferred (some []))), (4, .own [S (pickR w free (l.take g.1)).free] 25), (3, .own [Ws w] 23), (2, .own [Ens l] 22), (1, .own [.sl 8 1 0 (pickR w free (l.take g.1)).waits.length g.2.2] 31), (0, .own [.sl 7 2 0 (pickR w free (l.take g.1)).puts.length g.2.1] 30),
       (7, .row 2 g.2.1 68 ((pickR w free (l.take g.1)).puts.map eP)), (8, .row 1 g.2.2 3 ((pickR w free (l.take g.1)).waits.map (eI .i64)))], 9)) (fun g => l.length - g.1)
      (fun g => g.1 ≤ l.length ∧ (pickR w free (l.take g.1)).puts.length ≤ g.2.1 ∧ (pickR w free (l.take g.1)).waits.length ≤ g.2.2) ?round (0, 0, 0) ⟨Nat.zero_le _, Nat.le_refl _, Nat.le_refl _⟩) (by repeat' (first | exact EnvSub.nil _ | exact HeapSub.nil _ | refine EnvSub.cons rfl ?_ | refine HeapSub.cons rfl ?_ | (refine EnvSub.cons (by simp [Env.get]; done) ?_) | (refine HeapSub.cons (by simp [Heap.get]; done) ?_))) (by repeat' (first | exact EnvSub.nil _ | exact HeapSub.nil _ | refine EnvSub.cons rfl ?_ | refine HeapSub.cons rfl ?_ | (refine EnvSub.cons (by simp [Env.get]; done) ?_) | (refine HeapSub.cons (by simp [Heap.get]; done) ?_)))
    case round =>
      rintro ⟨k, cp1, cp2⟩ ⟨hk, hc1, hc2⟩ ih
      dsimp only at hk hc1 hc2 ih ⊢
      by_cases hkl : k < l.length
      · have q1 : ((k : Int) < l.length) = True := by first | (simp only [eq_iff_iff, iff_true]; first | assumption | omega) | (simp; omega)
        have gk : (List.map eEn l).getD k [] = eEn (l.getD k default) := getD_map _ _ _ hkl
        have hs := pickR_take (w := w) (free := free) hkl
        have hx := hl _ (getD_mem' hkl)
        obtain ⟨hx8, hxr⟩ := okL_rng l [] hoL _ (getD_mem' hkl)
        have hwl := wsh_len hoL hoV hwn (getD_mem' hkl)
        obtain ⟨f1, f2, f3⟩ := pickR_bd w free hf8 k (l.take k) (by rw [List.length_take]; omega) (fun y hy => (okL_rng l [] hoL y (List.mem_of_mem_take hy)).1.2)
        have hz := fun cp1 cp2 h1 h2 => ih (k + 1, cp1, cp2) ⟨by dsimp only; omega, h1, h2⟩ (by dsimp only; omega)
        dsimp only at hz
        rw [hs, stepK] at hz
        clear ih hs
        generalize l.getD k default = x at *
        generalize pickR w free (l.take k) = st at *
        obtain ⟨fr, ps, ws⟩ := st
        dsimp only at hc1 hc2 f1 f2 f3 hz ⊢
        have hww : ∀ y ∈ wsh w x.ms, inW y := fun y hy => hw y (List.mem_filter.1 hy).1
        have c2 := (wishes_ok w x.ms hw hn2 hx.2).toRd
        have c3 := ptakes_ok (wsh w x.ms) fr hww (by omega) (by omega) (by omega)
        have hto := fun at' => tkO_ok (w := wsh w x.ms) (free := fr) (at' := at') (by omega)
        have te : takeN (eEn x) 6 = some (eEn x) := rfl
        have cm : cut (eEn x) 0 1 = some [Is x.ms] := rfl
        have oz : over [.v (.slice none 0 0), .v (.int .u64 0), .v (.int .u64 0), .v (.int .u64 0), .v (.int .u64 0), Bo false] (eEn x) = some (eEn x) := rfl
        have on : ones (eEn x) := ⟨trivial, rfl, rfl, rfl, rfl, rfl, trivial⟩
        have le : (eEn x).length = 6 := rfl
        have tk : List.take 6 (eEn x) = eEn x := rfl
        have htv : tkV (wsh w x.ms) fr = .tup [Is ((tkO (wsh w x.ms) fr).getD (if 1 < (wsh w x.ms).length then [] else [(bestB ((wsh w x.ms).getD 0 default).m fr ((wsh w x.ms).getD 0 default).a).getD 0])), Bo (tkO (wsh w x.ms) fr).isSome] := by
          rw [tkV, tkO]
          split
          · rfl
          · cases bestB ((wsh w x.ms).getD 0 default).m fr ((wsh w x.ms).getD 0 default).a <;> rfl
        rw [htv] at c3
        clear htv
        generalize (if 1 < (wsh w x.ms).length then [] else [(bestB ((wsh w x.ms).getD 0 default).m fr ((wsh w x.ms).getD 0 default).a).getD 0]) = dflt at *
        generalize tkO (wsh w x.ms) fr = o at *
        generalize wsh w x.ms = ww at *
        refine h4.runD 300 ?_
        simp (disch := omega) only [push_cast, simprocAttr, q1, gk, te, cm, oz, on, le, tk]
        (repeat (refine ⟨by first | omega | (refine ⟨?_, ?_⟩ <;> omega) | trivial | (simp; done) | decide +kernel, fun _ => ?_⟩))
        refine h4.draw (.q 0 (.q 1 (.q 2 (.q 4 (.l 3 [4] (.l 5 [0, 2] (.q 6 (.q 7 (.q 8 (.q 9 (.q 10 (.fin)))))))))))) [0, 1, 2, 4, 6, 7, 8, 9, 10] (by kernel_rfl) (by kernel_rfl) rfl ?_
        simp (disch := omega) only [push_cast, simprocAttr, q1, gk, te, cm, oz, on, le, tk]
        refine DCall.of (Does.ret h4.hP h4.hgl c2 ⟨trivial, by first | (simp [SV.bnd, SV.bndL]; done) | (simp [SV.bnd, SV.bndL, ec_bnd]; done), by first | (simp [SV.bnd, SV.bndL]; done) | (simp [SV.bnd, SV.bndL, ec_bnd]; done) | assumption⟩ ?_)
        simp (disch := omega) only [push_cast, simprocAttr, q1, gk, te, cm, oz, on, le, tk]
        refine DCall.of (Does.ret h4.hP h4.hgl c3 ⟨trivial, by first | (simp [SV.bnd, SV.bndL]; done) | (simp [SV.bnd, SV.bndL, ec_bnd]; done), by first | (simp [SV.bnd, SV.bndL]; done) | (simp [SV.bnd, SV.bndL, ec_bnd]; done) | assumption⟩ ?_)
        cases o with
        | none =>
          dsimp only at hz
          simp (disch := omega) only [push_cast, simprocAttr, q1, gk, te, cm, oz, on, le, tk]
          refine h4.run 300 ?_
          simp (disch := omega) only [push_cast, simprocAttr, q1, gk, te, cm, oz, on, le, tk]
          refine Sat.enter ?_
          refine h4.run 300 ?_
          simp (disch := omega) only [push_cast, simprocAttr, q1, gk, te, cm, oz, on, le, tk]
          refine Does.roundL h4.hP h4.hgl Tryd.mixed (L := L) rfl l1 l2 l3 l4 l5 rfl rfl fun κ_h5 x_h5 h5 => ?_
          simp only [bindP]
          refine h5.run 300 ?_
          simp (disch := omega) only [push_cast, simprocAttr, q1, gk, te, cm, oz, on, le, tk]
          refine h5.beg rfl ?_
          simp only [Heap.set, Nat.reduceEqDiff, ↓reduceIte]
          refine h5.run 300 ?_
          simp (disch := omega) only [push_cast, simprocAttr, q1, gk, te, cm, oz, on, le, tk]
          have et : List.take ws.length (List.map (eI .i64) ws) = List.map (eI .i64) ws := List.take_of_length_le (by simp)
          rw [et]
          refine ⟨⟨Nat.le_refl _, by omega, by omega⟩, fun _ => ?_⟩
          intro i
          refine h5.fin rfl ?_
          simp only [Heap.set, Nat.reduceEqDiff, ↓reduceIte]
          refine h4.run 300 ?_
          simp (disch := omega) only [push_cast, simprocAttr, q1, gk, te, cm, oz, on, le, tk]
          have hy := hz cp1 (ws.length + x.ms.length + i) hc1 (by rw [List.length_append]; omega)
          simp only [List.length_append, List.length_cons, List.length_nil, List.length_singleton, List.length_map, List.length_set, List.length_replicate, Nat.zero_add, Nat.add_zero, Int.natCast_add, Int.natCast_one, Int.ofNat_eq_natCast, List.map_append, List.map_cons, List.map_nil, List.take_length, eI, eB] at hy ⊢
          refine Sat.via (fun i => if i = 8 then 11 else i) (hy) (by intro i j; (repeat (first | omega | split))) (by repeat' (first | exact EnvVia.nil | refine EnvVia.cons (by first | trivial | decide | (simp [SV.bnd, SV.bndL]; done)) rfl ?_)) (by repeat' (first | exact HeapVia.nil | refine HeapVia.cons (by decide) (by first | trivial | exact Blk.bnd_own0 (by assumption) | (simp [Blk.bnd, SV.bnd, SV.bndL]; done) | exact bndL_mapV _ _ _ | exact LR.bnd (by rw [l2]; simp [bndE, SV.bnd, SV.bndL]) (by rw [l6]; decide)) (by first | (rw [Blk.ren_own0 (by assumption)]; rfl) | rfl | (simp only [Blk.ren, renL_mapV]; rfl) | (rw [LR.ren (by rw [l2] <;> rfl) (by rw [l6] <;> rfl)]; rfl)) ?_)) ⟨by have := h4.hm; (try dsimp only at this); (first | done | omega), fun i hi => by have := h4.hm; (try dsimp only at this); (first | omega | (dsimp only; omega) | (rw [if_neg (by omega)]))⟩ ⟨by simp, rfl⟩
        | some at' =>
          dsimp only at hz
          obtain ⟨ha1, ha2⟩ := hto at' rfl
          simp (disch := omega) only [push_cast, simprocAttr, q1, gk, te, cm, oz, on, le, tk]
          refine h4.run 300 ?_
          simp (disch := omega) only [push_cast, simprocAttr, q1, gk, te, cm, oz, on, le, tk]
          have hz := hz
          have hl4 : at'.length ≤ 8 := by omega
          apply Sat.join (κ := κ_h4) (x := x_h4) (α := Unit) (nx := 10) (dfs := []) (fun _ => True) (fun _ => ([(7, Is at'), (6, .ptr 9 0 0 0), (13, I k), (12, I l.length), (11, Ens l), (0, .yl 6), (1, .ptr 2 0 0 0), (2, .ptr 3 0 0 0), (3, .ptr 4 0 0 0)],
            [(9, .own (eEn x) 56), (6, L.blk .ready none), (5, .obj (.deferred (some []))), (4, .own [S (less fr at')] 25), (3, .own [Ws w] 23), (2, .own [Ens l] 22), (1, .own [.sl 8 1 0 ws.length cp2] 31), (0, .own [.sl 7 2 0 ps.length cp1] 30), (7, .row 2 cp1 68 (ps.map eP)), (8, .row 1 cp2 3 (ws.map (eI .i64)))]))
          · intro hj
            have hj := hj () trivial
            refine Sat.less (Sat.loop (γ := Nat) (fun j => ([(30, I j), (29, I at'.length), (28, Is at'), (7, Is at'), (6, .ptr 9 0 0 0), (13, I k), (12, I l.length), (11, Ens l), (0, .yl 6), (1, .ptr 2 0 0 0), (2, .ptr 3 0 0 0), (3, .ptr 4 0 0 0)],
              [(9, .own (eEn x) 56), (6, L.blk .ready none), (5, .obj (.deferred (some []))), (4, .own [S (less fr (at'.take j))] 25), (3, .own [Ws w] 23), (2, .own [Ens l] 22), (1, .own [.sl 8 1 0 ws.length cp2] 31), (0, .own [.sl 7 2 0 ps.length cp1] 30), (7, .row 2 cp1 68 (ps.map eP)), (8, .row 1 cp2 3 (ws.map (eI .i64)))], 10)) (fun j => at'.length - j) (fun j => j ≤ at'.length) ?inner 0 (Nat.zero_le _)) (by repeat' (first | exact EnvSub.nil _ | exact HeapSub.nil _ | refine EnvSub.cons rfl ?_ | refine HeapSub.cons rfl ?_ | (refine EnvSub.cons (by simp [Env.get]; done) ?_) | (refine HeapSub.cons (by simp [Heap.get]; done) ?_))) (by repeat' (first | exact EnvSub.nil _ | exact HeapSub.nil _ | refine EnvSub.cons rfl ?_ | refine HeapSub.cons rfl ?_ | (refine EnvSub.cons (by simp [Env.get]; done) ?_) | (refine HeapSub.cons (by simp [Heap.get]; done) ?_)))
            case inner =>
              intro j hjk ih2
              dsimp only at hjk ih2 ⊢
              by_cases hjl : j < at'.length
              · have q2 : ((j : Int) < at'.length) = True := by first | (simp only [eq_iff_iff, iff_true]; first | assumption | omega) | (simp; omega)
                have gj : (List.map (eI .i64) at').getD j [] = eI .i64 (at'.getD j default) := getD_map _ _ _ hjl
                have htj : at'.take (j + 1) = at'.take j ++ [at'.getD j default] := by
                  rw [List.take_succ_eq_append_getElem hjl, List.getD, List.getElem?_eq_getElem hjl]; rfl
                obtain ⟨c0, c1⟩ := ha2 _ (getD_mem' hjl)
                have hy := ih2 (j + 1) (by omega) (by omega)
                rw [htj, less_snoc] at hy
                have hlt := Nat.lt_of_le_of_lt (less_le (at'.take j) fr) f1
                clear ih2
                generalize at'.getD j default = c at *
                generalize less fr (at'.take j) = s at *
                have pw := pow32 c.toNat (by omega)
                have hp := pow_lt_256 (c := c.toNat) (by omega)
                have an := andNot32 (a := s) (b := 2 ^ c.toNat) (by omega) (by omega)
                refine h4.run 300 ?_
                simp (disch := omega) only [push_cast, simprocAttr, q2, gj, on, le, tk]
                (repeat (refine ⟨by first | omega | (refine ⟨?_, ?_⟩ <;> omega) | trivial | (simp; done) | decide +kernel, fun _ => ?_⟩))
                refine h4.draw (.q 0 (.q 1 (.q 2 (.q 3 (.l 4 [] (.fin)))))) [0, 1, 2, 3] (by kernel_rfl) (by kernel_rfl) rfl ?_
                simp (disch := omega) only [push_cast, simprocAttr, q2, gj, on, le, tk]
                refine ⟨c0, fun _ => ?_⟩
                rw [pw, an]
                refine h4.run 300 ?_
                simp (disch := omega) only [push_cast, simprocAttr, q2, gj, on, le, tk]
                exact hy.less (by repeat' (first | exact EnvSub.nil _ | exact HeapSub.nil _ | refine EnvSub.cons rfl ?_ | refine HeapSub.cons rfl ?_ | (refine EnvSub.cons (by simp [Env.get]; done) ?_) | (refine HeapSub.cons (by simp [Heap.get]; done) ?_))) (by repeat' (first | exact EnvSub.nil _ | exact HeapSub.nil _ | refine EnvSub.cons rfl ?_ | refine HeapSub.cons rfl ?_ | (refine EnvSub.cons (by simp [Env.get]; done) ?_) | (refine HeapSub.cons (by simp [Heap.get]; done) ?_)))
              · obtain rfl : j = at'.length := by omega
                rw [List.take_length]
                have q2 : ((at'.length : Int) < at'.length) = False := by first | (simp only [eq_iff_iff, iff_false]; first | assumption | omega) | (simp; omega)
                refine h4.runA 11 300 ?_
                simp (disch := omega) only [push_cast, simprocAttr, q2, on, le, tk]
                exact hj.less (by repeat' (first | exact EnvSub.nil _ | exact HeapSub.nil _ | refine EnvSub.cons rfl ?_ | refine HeapSub.cons rfl ?_ | (refine EnvSub.cons (by simp [Env.get]; done) ?_) | (refine HeapSub.cons (by simp [Heap.get]; done) ?_))) (by repeat' (first | exact EnvSub.nil _ | exact HeapSub.nil _ | refine EnvSub.cons rfl ?_ | refine HeapSub.cons rfl ?_ | (refine EnvSub.cons (by simp [Env.get]; done) ?_) | (refine HeapSub.cons (by simp [Heap.get]; done) ?_)))
          intro _ _
          dsimp only
          have hne : ¬ at'.length = 0 := by omega
          refine h4.run 300 ?_
          simp (disch := omega) only [push_cast, simprocAttr, on, le, tk, cm, te, oz, hne]
          refine Does.roundL h4.hP h4.hgl Tryd.mixed (L := L) rfl l1 l2 l3 l4 l5 rfl rfl fun κ_h5 x_h5 h5 => ?_
          simp only [bindP]
          refine h5.run 300 ?_
          simp (disch := omega) only [push_cast, simprocAttr, on, le, tk, cm, te, oz, hne]
          refine h5.beg rfl ?_
          simp only [Heap.set, Nat.reduceEqDiff, ↓reduceIte]
          refine h5.run 300 ?_
          simp (disch := omega) only [push_cast, simprocAttr, on, le, tk, cm, te, oz, hne]
          have hzl : (x.ms.zip at').length = x.ms.length := by rw [List.length_zip]; omega
          refine Sat.fresh 7 (by omega) (by repeat' (first | exact Once.nil | refine Once.cons (by simp) ?_)) ?_
          have hlr : (L.blk .busy none).ren (fun j => if j = 7 then 11 else j) = L.blk .busy none := LR.ren (by rw [l2] <;> rfl) (by rw [l6] <;> rfl)
          simp only [renH, Nat.reduceAdd, hlr]
          simp only [renE, List.map_cons, List.map_nil, SV.ren, SV.renL, Blk.ren, Nat.reduceAdd, Nat.reduceEqDiff, ↓reduceIte]
          refine Sat.less (Sat.loop (γ := Nat × Nat × Nat) (fun g => ([(38, I g.1), (37, I x.ms.length), (36, Is x.ms), (13, Is at'), (12, .ptr 10 0 0 0), (11, .ptr 1 0 0 0), (10, .ptr 0 0 0 0), (26, .fn (.func 69) [] [.ptr 2 0 0 0, .ptr 3 0 0 0, .ptr 4 0 0 0]), (8, I 0), (7, .v (.slice none 0 0)), (6, .v (.slice none 0 0)), (0, Ens l), (1, Ws w), (2, S free)],
            [(10, .own (eEn x) 56), (9, .own (eEn x) 56), (6, L.blk .busy none), (5, .obj (.deferred (some []))), (4, .own [S (less fr at')] 25), (3, .own [Ws w] 23), (2, .own [Ens l] 22), (1, .own [.sl 8 1 0 ws.length cp2] 31), (0, .own [.sl 11 2 0 (ps ++ (x.ms.zip at').take g.1).length g.2.1] 30), (11, .row 2 g.2.1 68 ((ps ++ (x.ms.zip at').take g.1).map eP)), (8, .row 1 cp2 3 (ws.map (eI .i64)))], 12)) (fun g => x.ms.length - g.1)
            (fun g => g.1 ≤ x.ms.length ∧ (ps ++ (x.ms.zip at').take g.1).length ≤ g.2.1) ?puts (0, cp1, 0) ⟨Nat.zero_le _, by simpa using hc1⟩) (by repeat' (first | exact EnvSub.nil _ | exact HeapSub.nil _ | refine EnvSub.cons rfl ?_ | refine HeapSub.cons rfl ?_ | (refine EnvSub.cons (by simp [Env.get]; done) ?_) | (refine HeapSub.cons (by simp [Heap.get]; done) ?_))) (by simp only [List.take_zero, List.append_nil]; exact (by repeat' (first | exact EnvSub.nil _ | exact HeapSub.nil _ | refine EnvSub.cons rfl ?_ | refine HeapSub.cons rfl ?_ | (refine EnvSub.cons (by simp [Env.get]; done) ?_) | (refine HeapSub.cons (by simp [Heap.get]; done) ?_))))
          case puts =>
            rintro ⟨j, c1', _⟩ ⟨hjk, hcj⟩ ih2
            dsimp only at hjk hcj ih2 ⊢
            by_cases hjl : j < x.ms.length
            · have q2 : ((j : Int) < x.ms.length) = True := by first | (simp only [eq_iff_iff, iff_true]; first | assumption | omega) | (simp; omega)
              have gj : (List.map (eI .i64) x.ms).getD j [] = eI .i64 (x.ms.getD j default) := getD_map _ _ _ hjl
              have gj2 : (List.map (eI .i64) at').getD j [] = eI .i64 (at'.getD j default) := getD_map _ _ _ (by omega)
              have htj : (x.ms.zip at').take (j + 1) = (x.ms.zip at').take j ++ [(x.ms.getD j default, at'.getD j default)] := by
                rw [List.take_succ_eq_append_getElem (by rw [hzl]; exact hjl), List.getElem_zip, List.getD, List.getElem?_eq_getElem hjl, List.getD, List.getElem?_eq_getElem (show j < at'.length by omega)]; rfl
              have hy := fun c h => ih2 (j + 1, c, 0) ⟨by dsimp only; omega, h⟩ (by dsimp only; omega)
              dsimp only at hy
              rw [htj, ← List.append_assoc] at hy
              have hpl : (ps ++ (x.ms.zip at').take j).length ≤ 8 * k + 8 := by
                rw [List.length_append, List.length_take]; omega
              clear ih2 htj
              generalize x.ms.getD j default = v at *
              generalize at'.getD j default = c at *
              generalize ps ++ (x.ms.zip at').take j = qs at *
              have et : List.take qs.length (List.map eP qs) = List.map eP qs := List.take_of_length_le (by simp)
              refine h5.run 300 ?_
              simp (disch := omega) only [push_cast, simprocAttr, q2, gj, gj2, et, on, le, tk, cm, te, oz, hne]
              (repeat (refine ⟨by first | omega | (refine ⟨?_, ?_⟩ <;> omega) | trivial | (simp; done) | decide +kernel, fun _ => ?_⟩))
              refine h5.draw (.q 0 (.q 1 (.q 2 (.q 3 (.q 4 (.q 5 (.q 6 (.l 7 [0, 5] (.l 8 [5] (.l 9 [] (.fin))))))))))) [0, 1, 2, 3, 4, 5, 6] (by kernel_rfl) (by kernel_rfl) rfl ?_
              simp (disch := omega) only [push_cast, simprocAttr, q2, gj, gj2, et, on, le, tk, cm, te, oz, hne]
              refine ⟨⟨by omega, by omega⟩, fun _ => ⟨⟨Nat.le_refl _, by omega, by omega⟩, fun _ => ?_⟩⟩
              intro i
              refine h5.run 300 ?_
              simp (disch := omega) only [push_cast, simprocAttr, q2, gj, gj2, et, on, le, tk, cm, te, oz, hne]
              have hy := hy (qs.length + 1 + i) (by simp)
              simp only [List.length_append, List.length_cons, List.length_nil, List.length_singleton, List.length_map, List.length_set, List.length_replicate, Nat.zero_add, Nat.add_zero, Int.natCast_add, Int.natCast_one, Int.ofNat_eq_natCast, List.map_append, List.map_cons, List.map_nil, List.take_length, eI, eB] at hy ⊢
              refine Sat.via (fun i => if i = 11 then 13 else i) (hy) (by intro i j; (repeat (first | omega | split))) (by repeat' (first | exact EnvVia.nil | refine EnvVia.cons (by first | trivial | decide | (simp [SV.bnd, SV.bndL]; done)) rfl ?_)) (by repeat' (first | exact HeapVia.nil | refine HeapVia.cons (by decide) (by first | trivial | exact Blk.bnd_own0 (by assumption) | (simp [Blk.bnd, SV.bnd, SV.bndL]; done) | exact bndL_mapV _ _ _ | exact LR.bnd (by rw [l2]; simp [bndE, SV.bnd, SV.bndL]) (by rw [l6]; decide)) (by first | (rw [Blk.ren_own0 (by assumption)]; rfl) | rfl | (simp only [Blk.ren, renL_mapV]; rfl) | (rw [LR.ren (by rw [l2] <;> rfl) (by rw [l6] <;> rfl)]; rfl)) ?_)) ⟨by have := h5.hm; (try dsimp only at this); (first | done | omega), fun i hi => by have := h5.hm; (try dsimp only at this); (first | omega | (dsimp only; omega) | (rw [if_neg (by omega)]))⟩ ⟨by simp, rfl⟩
            · obtain rfl : j = x.ms.length := by omega
              have tz : List.take x.ms.length (x.ms.zip at') = x.ms.zip at' := List.take_of_length_le (by omega)
              rw [tz] at hcj ⊢
              have q2 : ((x.ms.length : Int) < x.ms.length) = False := by first | (simp only [eq_iff_iff, iff_false]; first | assumption | omega) | (simp; omega)
              refine h5.run 300 ?_
              simp (disch := omega) only [push_cast, simprocAttr, q2]
              have hy := hz c1' cp2 hcj hc2
              generalize x.ms.zip at' = zz at *
              refine h5.fin rfl ?_
              simp only [Heap.set, Nat.reduceEqDiff, ↓reduceIte]
              refine h4.run 300 ?_
              simp (disch := omega) only [push_cast, simprocAttr, q2]
              simp only [List.length_append, List.length_cons, List.length_nil, List.length_singleton, List.length_map, List.length_set, List.length_replicate, Nat.zero_add, Nat.add_zero, Int.natCast_add, Int.natCast_one, Int.ofNat_eq_natCast, List.map_append, List.map_cons, List.map_nil, List.take_length, eI, eB] at hy ⊢
              refine Sat.via (fun i => if i = 7 then 11 else i) (hy) (by intro i j; (repeat (first | omega | split))) (by repeat' (first | exact EnvVia.nil | refine EnvVia.cons (by first | trivial | decide | (simp [SV.bnd, SV.bndL]; done)) rfl ?_)) (by repeat' (first | exact HeapVia.nil | refine HeapVia.cons (by decide) (by first | trivial | exact Blk.bnd_own0 (by assumption) | (simp [Blk.bnd, SV.bnd, SV.bndL]; done) | exact bndL_mapV _ _ _ | exact LR.bnd (by rw [l2]; simp [bndE, SV.bnd, SV.bndL]) (by rw [l6]; decide)) (by first | (rw [Blk.ren_own0 (by assumption)]; rfl) | rfl | (simp only [Blk.ren, renL_mapV]; rfl) | (rw [LR.ren (by rw [l2] <;> rfl) (by rw [l6] <;> rfl)]; rfl)) ?_)) ⟨by have := h4.hm; (try dsimp only at this); (first | done | omega), fun i hi => by have := h4.hm; (try dsimp only at this); (first | omega | (dsimp only; omega) | (rw [if_neg (by omega)]))⟩ ⟨by simp, rfl⟩
      · obtain rfl : k = l.length := by omega
        rw [List.take_length] at hc1 hc2 ⊢
        have q1 : ((l.length : Int) < l.length) = False := by first | (simp only [eq_iff_iff, iff_false]; first | assumption | omega) | (simp; omega)
        refine h4.run 300 ?_
        simp (disch := omega) only [push_cast, simprocAttr, q1]
        refine h4.fin _ _ _ _ _ trivial rfl ?_
        refine ⟨_, _, rfl, by decide, ?_⟩
        simp only [Option.map_none, Option.map_some, Option.toList, List.nil_append, List.cons_append, Heap.drop, Nat.reduceEqDiff, ↓reduceIte]
        refine hκ.run 300 ?_
        simp (disch := omega) only [push_cast, simprocAttr, q1]
        (repeat (refine ⟨by first | omega | (refine ⟨?_, ?_⟩ <;> omega) | trivial | (simp; done) | decide +kernel, fun _ => ?_⟩))
        refine hκ.ret _ _ _ _ _ _ ⟨rfl, trivial⟩ rfl ?_
        have et1 : List.take (pickR w free l).puts.length (List.map eP (pickR w free l).puts) = List.map eP (pickR w free l).puts := List.take_of_length_le (by simp)
        have et2 : List.take (pickR w free l).waits.length (List.map (eI .i64) (pickR w free l).waits) = List.map (eI .i64) (pickR w free l).waits := List.take_of_length_le (by simp)
        refine Post.frz [7, 8] (by first | (simp [lendPL, lendP, lendSlP, dropL, Heap.get, Heap.drop, resV]; done) | (simp [lendPL, lendP, lendSlP, dropL, Heap.get, Heap.drop, resV]; omega) | (simp [lendPL, lendP, lendSlP, dropL, Heap.get, Heap.drop, resV, -List.length_eq_zero_iff]; omega)) ?_
        simp only [resV, lendL, lendS, lendSl, dropL, Heap.drop, Heap.get, List.mem_singleton, List.mem_cons, List.not_mem_nil, or_false, or_true, true_or, List.drop_zero, Nat.reduceEqDiff, Nat.one_ne_zero, Nat.zero_ne_one, ↓reduceIte, et1, et2]
        exact .ret (by simp [SV.bnd, SV.bndL])
  · rw [if_neg he] at hκ
    refine hκ.run 300 ?_
    simp (disch := omega) only [push_cast, simprocAttr, he]
    refine hκ.ret _ _ _ _ _ _ trivial rfl ?_
    exact .ret (by simp [SV.bnd, SV.bndL])
end Go.Proofs.YtnjgmjcokcfmkaaDoor

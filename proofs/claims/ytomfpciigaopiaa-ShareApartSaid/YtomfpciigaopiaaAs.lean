/- The spread: the document's walk. No condition. -/
import Derived.Test.YtomfpciigaopiaaAr
import Derived.Test.YtomfpciigaopiaaAg
namespace Go.Proofs.Ytomfpciigaopiaa
open Go Go.Sy
set_option maxRecDepth 100000
set_option linter.unusedSimpArgs false
set_option linter.unusedVariables false

theorem Nb_isB (n : Nat) : ∀ x ∈ Nb n, isB x := fun x hx => by
  rw [Nb, Bt, List.mem_map] at hx
  obtain ⟨j, -, rfl⟩ := hx
  exact ⟨_, rfl⟩
theorem nbB (n : Nat) : (∀ x ∈ Nb n, isB x) = True := eq_true (Nb_isB n)
theorem Nb_toB (n : Nat) : (Nb n).map toB = (List.range 256).map n.testBit := by
  rw [Nb, Bt, List.map_map]; rfl
theorem Nb_eq {a b : Nat} (ha : a < 2 ^ 256) (hb : b < 2 ^ 256) : decide ((Nb a).map toB = (Nb b).map toB) = decide (a = b) := by
  rw [decide_eq_decide, Nb_toB, Nb_toB]
  refine ⟨fun h => ?_, fun h => by rw [h]⟩
  refine Nb_inj ha hb (Bt_congr fun j hj => ?_)
  have := congrArg (fun l => l[j]?) h
  simpa [List.getElem?_map, List.getElem?_range hj] using this
theorem bofU_ok (n : Nat) (h : n < 2 ^ 64) : Con Try.prog gl0 (fnv 43) [.agg [U 0, U n]] 0 [] (Ret (.arr 1 (Nb n))) := by
  rw [← W_small h]
  exact bof_ok n (Nat.lt_trans h (by decide))
/-- What is known of the best one, so far. -/
structure MX (N : Nat) (l : List Pt) (i k B : Nat) (F : Bool) : Prop where
  top : ∀ a b, twoP l a b → (a < i ∨ (a = i ∧ b < k)) → F = true ∧ spN N (mulP (l.getD a default) (l.getD b default)) ≤ B
  at_ : F = true → ∃ a b, twoP l a b ∧ B = spN N (mulP (l.getD a default) (l.getD b default))
  no : F = false → B = 0
theorem MX.zero (N : Nat) (l : List Pt) : MX N l 0 0 0 false := ⟨fun a b _ h => by omega, fun h => absurd h (by decide), fun _ => rfl⟩
theorem MX.skip {N : Nat} {l : List Pt} {i k B : Nat} {F : Bool} (h : MX N l i k B F) (hs : ¬ twoP l i k) : MX N l i (k + 1) B F :=
  ⟨fun a b h1 h2 => h.top a b h1 (by
    by_cases e : a = i ∧ b = k
    · obtain ⟨rfl, rfl⟩ := e; exact absurd h1 hs
    · omega), h.at_, h.no⟩
theorem MX.row {N : Nat} {l : List Pt} {i B : Nat} {F : Bool} (h : MX N l i l.length B F) : MX N l (i + 1) (i + 1) B F :=
  ⟨fun a b h1 h2 => h.top a b h1 (by have := h1.1; have := h1.2.1; omega), h.at_, h.no⟩
theorem MX.put {N : Nat} {l : List Pt} {i k B : Nat} {F : Bool} (h : MX N l i k B F) (ht : twoP l i k) (hp : F = false ∨ B < spN N (mulP (l.getD i default) (l.getD k default))) : MX N l i (k + 1) (spN N (mulP (l.getD i default) (l.getD k default))) true :=
  ⟨fun a b h1 h2 => ⟨rfl, by
    by_cases e : a = i ∧ b = k
    · obtain ⟨rfl, rfl⟩ := e; exact Nat.le_refl _
    · obtain ⟨h3, h4⟩ := h.top a b h1 (by omega)
      rcases hp with hp | hp
      · rw [hp] at h3; cases h3
      · omega⟩, fun _ => ⟨i, k, ht, rfl⟩, fun h => by cases h⟩
theorem MX.keep {N : Nat} {l : List Pt} {i k B : Nat} (h : MX N l i k B true) (hp : ¬ B < spN N (mulP (l.getD i default) (l.getD k default))) : MX N l i (k + 1) B true :=
  ⟨fun a b h1 h2 => ⟨rfl, by
    by_cases e : a = i ∧ b = k
    · obtain ⟨rfl, rfl⟩ := e; omega
    · exact (h.top a b h1 (by omega)).2⟩, h.at_, h.no⟩
theorem MX.full {N : Nat} {l : List Pt} {k B : Nat} {F : Bool} (hl : ∀ p ∈ l, posP p) (h : MX N l l.length k B F) : B = spV N l := by
  rcases spV_at (N := N) hl with ⟨i, j, h1, h2⟩ | ⟨h1, h2⟩
  · have h3 := h.top i j h1 (.inl (Nat.lt_of_le_of_lt h1.1 h1.2.1))
    obtain ⟨a, b, h4, h5⟩ := h.at_ h3.1
    have := spV_top (N := N) hl h4
    omega
  · cases F with
    | false => rw [h.no rfl, h1]
    | true => obtain ⟨a, b, h4, -⟩ := h.at_ rfl; exact absurd h4 (h2 a b)
theorem spN_bd {N : Nat} {p q : Pt} (hN : N ≤ 176158080000000) (hp : okP p = true) (hq : okP q = true) : spN N (mulP p q) < 2 ^ 64 := by
  have h1 := (okP_iff p).1 hp
  have h2 := (okP_iff q).1 hq
  have h3 := mul_bd (show 0 ≤ p.2 by omega) h1.2.2 (show 0 ≤ q.2 by omega) h2.2.2
  have h4 : 0 < p.1 * q.1 := Int.mul_pos (by omega) (by omega)
  rw [spN, mulP]
  dsimp only
  have h5 := ceilN_self (n := N * (p.2 * q.2).toNat) (d := (p.1 * q.1).toNat) (by omega)
  have h6 : N * (p.2 * q.2).toNat ≤ 176158080000000 * 64 := Nat.mul_le_mul hN (by omega)
  omega
set_option maxHeartbeats 8000000 in
theorem rspread_ok (l : List Pt) (m gap : Int) (hr : rightP l = true) (hm : 1 ≤ m ∧ m ≤ 8) (hg : 1 ≤ gap ∧ gap ≤ 10000000) : Con Try.prog gl0 (fnv 22) [Ps l, I m, I gap] 0 [] (Ret (W (spV (spC l m gap) l))) := by
  obtain ⟨hn, hall, -⟩ := (rightP_iff l).1 hr
  have hfull := fun N B F (h : MX N l l.length l.length B F) => h.full fun p hp => okP_pos (hall p hp)
  obtain ⟨b1, hC, hCb⟩ := spC_bd hr hm hg
  have hW := sumW_bd hr
  have cn := Con.toRd (none_ok l (by omega))
  have cw := weights_ok l (no0 l) hr (no0_len l)
  rw [zeroZ] at cw
  generalize spC l m gap = N at *
  generalize sumOf wW l = w at *
  obtain ⟨M, hM⟩ : ∃ M : Nat, 2 * m = (M : Int) := ⟨(2 * m).toNat, by omega⟩
  obtain ⟨G, hG⟩ : ∃ G : Nat, 1000000 + 2 * gap = (G : Int) := ⟨(1000000 + 2 * gap).toNat, by omega⟩
  obtain ⟨Wn, hWn⟩ : ∃ X : Nat, w = (X : Int) := ⟨w.toNat, by omega⟩
  have hN : M * G * Wn = N := by
    have : ((M * G * Wn : Nat) : Int) = (N : Int) := by rw [hC, Int.natCast_mul, Int.natCast_mul, ← hM, ← hG, ← hWn]
    exact Int.ofNat.inj this
  rw [hWn] at cw
  have c1 := bofU_ok M (by omega)
  have c2 := bprod_ok M G (by omega)
  have c3 := bprod_ok (M * G) Wn (by omega)
  rw [hN] at c3
  have cone := bofU_ok 1 (by decide)
  have ez : List.replicate 256 [SV.v (.bool false)] = Nb 0 := Nb_zero.symm
  refine Con.of Try.ok22 (nt := 110) (res := [.cell 6 44]) Try.mixed Try.func22 rfl rfl rfl rfl fun κ xc hκ => hκ.run 300 ?_
  simp (disch := omega) only [sBuild0, exec_succ, runR_next, runR_need, runR_stop, stepS, runOp, toSR, sop, rOf, rNew, sAlloc, sAlloc0, sStoreIn, sStore, fillS, evps, sBuild, ev, svs, Env.get, Heap.get, Heap.set, over, paste, cellsS, one, ones, envOf, Value.oneCell', OutOK_need, OutOK_stop, undefS, undef, List.size_toArray, List.length_cons, List.length_nil, List.range, List.range.loop, List.getElem?_toArray, List.getElem?_cons_succ, List.getElem?_cons_zero, List.map_cons, List.map_nil, ↓reduceIte, Nat.reduceAdd, Nat.reduceLT, Nat.reduceEqDiff, Nat.zero_add, true_and, and_self, forall_const, gl0, Try.sz44, Try.ze44, Try.pl44, Try.ar44]
  refine Sat.less (Sat.loop (γ := Nat × Nat × Bool) (fun s => ([(9, I s.1), (8, Bo s.2.2), (7, .ptr 1 0 0 0), (6, .ptr 0 0 0 0), (0, Ps l), (1, I m), (2, I gap)], [(1, .own [U (s.2.1 / 18446744073709551616), U (s.2.1 % 18446744073709551616)] 44), (0, .own [U 0, U 0] 44)], 2)) (fun s => l.length - s.1) (fun s => s.1 ≤ l.length ∧ s.2.1 < 2 ^ 64 ∧ MX N l s.1 s.1 s.2.1 s.2.2) ?round (0, 0, false) ⟨Nat.zero_le _, by decide, MX.zero N l⟩) (by repeat' (first | exact EnvSub.nil _ | exact HeapSub.nil _ | refine EnvSub.cons rfl ?_ | refine HeapSub.cons rfl ?_ | (refine EnvSub.cons (by simp [Env.get]; done) ?_) | (refine HeapSub.cons (by simp [Heap.get]; done) ?_))) (by repeat' (first | exact EnvSub.nil _ | exact HeapSub.nil _ | refine EnvSub.cons rfl ?_ | refine HeapSub.cons rfl ?_ | (refine EnvSub.cons (by simp [Env.get]; done) ?_) | (refine HeapSub.cons (by simp [Heap.get]; done) ?_)))
  case round =>
    rintro ⟨i, B, F⟩ ⟨hk, hB, hmx⟩ ih
    dsimp only at hk hB hmx ih ⊢
    refine hκ.run 300 ?_
    simp (disch := omega) only [sBuiltin, exec_succ, runR_next, stepS, runOp, condS, toSR, sop, rOf, sInt, sBin, sLen, ev, Env.get, List.size_toArray, List.length_cons, List.length_nil, List.length_map, List.range, List.range.loop, List.getElem?_toArray, List.getElem?_cons_succ, List.getElem?_cons_zero, ↓reduceIte, Nat.reduceAdd, Nat.reduceLT, Nat.reduceEqDiff, Nat.zero_add, Nat.add_one_ne_zero, gl0, Try.underlying22]
    refine OutOK_fork (fun h => ?_) (fun h => ?_) <;> try simp only [Bool.not_true, Bool.not_false, decide_eq_true_eq, decide_eq_false_iff_not, Bool.not_eq_true', Bool.not_eq_false', Bool.and_eq_true, Bool.or_eq_false_iff, Bool.or_eq_true, Bool.and_eq_false_iff] at h
    · have hz := fun B F h1 h2 => ih (i + 1, B, F) ⟨by dsimp only; omega, h1, h2⟩ (by dsimp only; omega)
      dsimp only at hz
      simp (disch := omega) only [exec_succ, runR_next, runR_stop, stepS, runOp, toSR, sop, rOf, ev, Env.get, OutOK_stop, List.size_toArray, List.length_cons, List.length_nil, List.range, List.range.loop, List.getElem?_toArray, List.getElem?_cons_succ, List.getElem?_cons_zero, ↓reduceIte, Nat.reduceAdd, Nat.reduceLT, Nat.reduceEqDiff, Nat.zero_add]
      refine Sat.less (Sat.loop (γ := Nat × Nat × Bool) (fun s => ([(10, I s.1), (9, I i), (8, Bo s.2.2), (7, .ptr 1 0 0 0), (6, .ptr 0 0 0 0), (0, Ps l), (1, I m), (2, I gap)], [(1, .own [U (s.2.1 / 18446744073709551616), U (s.2.1 % 18446744073709551616)] 44), (0, .own [U 0, U 0] 44)], 2)) (fun s => l.length - s.1) (fun s => i ≤ s.1 ∧ s.1 ≤ l.length ∧ s.2.1 < 2 ^ 64 ∧ MX N l i s.1 s.2.1 s.2.2) ?round2 (i, B, F) ⟨Nat.le_refl _, hk, hB, hmx⟩) (by repeat' (first | exact EnvSub.nil _ | exact HeapSub.nil _ | refine EnvSub.cons rfl ?_ | refine HeapSub.cons rfl ?_ | (refine EnvSub.cons (by simp [Env.get]; done) ?_) | (refine HeapSub.cons (by simp [Heap.get]; done) ?_))) (by repeat' (first | exact EnvSub.nil _ | exact HeapSub.nil _ | refine EnvSub.cons rfl ?_ | refine HeapSub.cons rfl ?_ | (refine EnvSub.cons (by simp [Env.get]; done) ?_) | (refine HeapSub.cons (by simp [Heap.get]; done) ?_)))
      clear hmx
      case round2 =>
        rintro ⟨k, B, F⟩ ⟨hik, hk2, hB, hmx⟩ ih2
        dsimp only at hik hk2 hB hmx ih2 ⊢
        refine hκ.run 300 ?_
        simp (disch := omega) only [sBuiltin, exec_succ, runR_next, stepS, runOp, condS, toSR, sop, rOf, sInt, sBin, sLen, ev, Env.get, List.size_toArray, List.length_cons, List.length_nil, List.length_map, List.range, List.range.loop, List.getElem?_toArray, List.getElem?_cons_succ, List.getElem?_cons_zero, ↓reduceIte, Nat.reduceAdd, Nat.reduceLT, Nat.reduceEqDiff, Nat.zero_add, Nat.add_one_ne_zero, gl0, Try.underlying22]
        refine OutOK_fork (fun h => ?_) (fun h => ?_) <;> try simp only [Bool.not_true, Bool.not_false, decide_eq_true_eq, decide_eq_false_iff_not, Bool.not_eq_true', Bool.not_eq_false', Bool.and_eq_true, Bool.or_eq_false_iff, Bool.or_eq_true, Bool.and_eq_false_iff] at h
        · have hz2 := fun B F h1 h2 => ih2 (k + 1, B, F) ⟨by dsimp only; omega, by dsimp only; omega, h1, h2⟩ (by dsimp only; omega)
          dsimp only at hz2
          have hpi := hall _ (getD_mem (show i < l.length by omega))
          have hpk := hall _ (getD_mem (show k < l.length by omega))
          have gi : (List.map eP l).getD i [] = eP (l.getD i default) := getD_map _ _ _ (by omega)
          have gk : (List.map eP l).getD k [] = eP (l.getD k default) := getD_map _ _ _ (by omega)
          have hti := (okP_iff _).1 hpi
          have htk := (okP_iff _).1 hpk
          by_cases ht : twoP l i k
          case neg =>
            have hki : k = i ∧ (l.getD i default).2 < 2 := by
              rw [twoP] at ht
              by_cases e : k = i
              · refine ⟨e, ?_⟩
                have : ¬ 2 ≤ (l.getD i default).2 := fun h => ht ⟨hik, by omega, fun _ => h⟩
                omega
              · exact absurd ⟨hik, by omega, fun h => absurd h e⟩ ht
            have hz2 := hz2 B F hB (hmx.skip ht)
            obtain ⟨rfl, hlt⟩ := hki
            simp (disch := omega) only [exec_succ, runR_next, runR_need, runR_fork_true, runR_guard_tt, runR_stop, stepS, runOp, guardS, condS, goS, toSR, sop, rOf, sPick, sLoad, sInt, sBin, sFieldAddr, sIndexAddr, elemT, obind, ev, Env.get, takeN, cut, aggOf, exitTo, OutOK_need, OutOK_stop, undefS, undef, List.size_toArray, List.length_cons, List.length_nil, List.length_map, List.range, List.range.loop, List.getElem?_toArray, List.getElem?_cons_succ, List.getElem?_cons_zero, Option.bind_some, ↓reduceIte, Nat.reduceAdd, Nat.reduceLT, Nat.reduceEqDiff, Nat.zero_add, Nat.add_one_ne_zero, Int.toNat_natCast, Bool.not_true, decide_true, beq_self_eq_true, and_self, wrap_i64, Try.sz3, Try.ag3, Try.underlying22, Try.sz54, Try.fd54f1, gk, eP, hlt]
            (repeat (refine ⟨by first | omega | (refine ⟨?_, ?_⟩ <;> omega) | trivial | (simp; done) | decide +kernel, fun _ => ?_⟩))
            refine Sat.via (fun i => i) (hz2) (by intro i j; (repeat (first | omega | split))) (by repeat' (first | exact EnvVia.nil | refine EnvVia.cons (by first | trivial | decide | (simp [SV.bnd, SV.bndL]; done)) rfl ?_)) (by repeat' (first | exact HeapVia.nil | refine HeapVia.cons (by decide) (by first | trivial | (simp [Blk.bnd, SV.bnd, SV.bndL]; done) | exact bndL_mapV _ _ _ | exact LR.bnd (by rw [l2]; simp [bndE, SV.bnd, SV.bndL]) (by rw [l6]; decide)) (by first | rfl | (simp only [Blk.ren, renL_mapV]; rfl) | (rw [LR.ren (by rw [l2] <;> rfl) (by rw [l6] <;> rfl)]; rfl)) ?_)) ⟨by have := hκ.hm; (try dsimp only at this); (first | done | omega), fun i hi => by have := hκ.hm; (try dsimp only at this); (first | omega | (dsimp only; omega) | (rw [if_neg (by omega)]))⟩ ⟨by simp, rfl⟩
          have hz3 := fun h => hz2 _ true (spN_bd hCb hpi hpk) (hmx.put ht h)
          have hz4 := fun (e : F = true) h => hz2 B true hB ((e ▸ hmx).keep h)
          have hsb := spN_bd hCb hpi hpk
          rw [spN, mulP] at hz3 hz4 hsb
          dsimp only at hz3 hz4 hsb
          have hcond : k = i → 2 ≤ (l.getD i default).2 := ht.2.2
          clear hz2 hmx ih2 ih hz
          generalize l.getD i default = p at *
          generalize l.getD k default = q at *
          have b2 := mul_bd (show 0 ≤ p.2 by omega) hti.2.2 (show 0 ≤ q.2 by omega) htk.2.2
          have b3 := mul_bd (show 0 ≤ p.1 by omega) hti.1.2 (show 0 ≤ q.1 by omega) htk.1.2
          have b4 : 0 < p.1 * q.1 := Int.mul_pos (by omega) (by omega)
          obtain ⟨C, hCn⟩ : ∃ X : Nat, p.2 * q.2 = (X : Int) := ⟨(p.2 * q.2).toNat, by omega⟩
          obtain ⟨D, hDn⟩ : ∃ X : Nat, p.1 * q.1 = (X : Int) := ⟨(p.1 * q.1).toNat, by omega⟩
          rw [hCn, hDn, Int.toNat_natCast, Int.toNat_natCast] at hz3 hz4 hsb
          rw [hCn] at b2
          rw [hDn] at b3 b4
          have c4 := bprod_ok N C (by omega)
          have hNC : N * C ≤ 176158080000000 * 64 := Nat.mul_le_mul hCb (by omega)
          have c5 := bofU_ok D (by omega)
          have c6 := bquo_ok (N * C) D (by omega) (by omega) (by omega)
          have hq2 : ceilN (N * C) D = N * C / D + (if 0 < N * C % D then 1 else 0) := rfl
          have hq3 : N * C / D ≤ N * C := Nat.div_le_self _ _
          have hr3 := Nat.mod_lt (N * C) (show 0 < D by omega)
          generalize ceilN (N * C) D = V at *
          generalize N * C / D = Q at *
          generalize N * C % D = R at *
          have e9 : (((k : Int) = (i : Int)) → (p.2 < 2) = False) := fun h => by
            simp only [eq_iff_iff, iff_false]; have := hcond (by omega); omega
          apply Sat.join (α := Unit) (nx := 3) (dfs := []) (fun _ => True) (fun _ => ([(11, .ptr 2 0 0 0), (10, I k), (9, I i), (8, Bo F), (7, .ptr 1 0 0 0), (6, .ptr 0 0 0 0), (0, Ps l), (1, I m), (2, I gap)], [(2, .row 1 256 76 (Nb (M * G))), (1, .own [U (B / 18446744073709551616), U (B % 18446744073709551616)] 44), (0, .own [U 0, U 0] 44)]))
          · intro hj
            have hj := hj () trivial
            by_cases e1 : (k : Int) = i
            · have e2 := e9 e1
              have e1 := eq_true e1
              simp (disch := omega) only [sBuild0, exec_succ, runR_next, runR_need, runR_fork_false, runR_guard_tt, runR_call, stepS, runOp, guardS, condS, toSR, sop, rOf, sPick, isArr, sLoad, sInt, sBin, sConv, sFieldAddr, sIndexAddr, elemT, obind, fillS, evps, sBuild, ev, evs, svs, Env.get, takeN, cut, over, paste, aggOf, cellsS, Value.cells, OutOK_need, OutOK_call, undefS, undef, List.size_toArray, List.length_cons, List.length_nil, List.length_map, List.range, List.range.loop, List.getElem?_toArray, List.getElem?_cons_succ, List.getElem?_cons_zero, List.map_cons, List.map_nil, Option.bind_some, List.toList_toArray, ↓reduceIte, Nat.reduceAdd, Nat.reduceLT, Nat.reduceEqDiff, Nat.zero_add, Nat.add_one_ne_zero, Int.toNat_natCast, Bool.not_true, decide_true, decide_false, and_self, reduceCtorEq, wrap_i64, wrap_u64, Try.underlying3, Try.sz3, Try.ag3, Try.underlying22, Try.underlying31, Try.ze44, Try.pl44, Try.ar44, Try.sz54, Try.fd54f1, gi, eP, hM, e1, e2]
              (repeat (refine ⟨by first | omega | (refine ⟨?_, ?_⟩ <;> omega) | trivial | (simp; done) | decide +kernel, fun _ => ?_⟩))
              refine Does.ret hκ.hP hκ.hgl (c1) ⟨trivial, by simp [SV.bnd, SV.bndL], by first | (simp [SV.bnd, SV.bndL]; done) | assumption⟩ ?_
              refine hκ.run 300 ?_
              simp (disch := omega) only [exec_succ, runR_next, runR_call, stepS, runOp, toSR, sop, rOf, sInt, sBin, sConv, ev, evs, Env.get, setO, OutOK_call, List.getElem?_toArray, List.getElem?_cons_succ, List.getElem?_cons_zero, ↓reduceIte, Nat.reduceLT, Nat.reduceEqDiff, reduceCtorEq, wrap_i64, wrap_u64, gl0, Try.underlying2, Try.underlying31, hG]
              refine Does.ret hκ.hP hκ.hgl (c2) ⟨trivial, by simp [SV.bnd, SV.bndL], by first | (simp [SV.bnd, SV.bndL]; done) | assumption⟩ ?_
              refine hκ.run 300 ?_
              simp (disch := omega) only [allQuiet, quietOp, drawS, exec_succ, runR_next, runR_need, runR_stop, stepS, runOp, toSR, sop, rNew, sAlloc, sStoreArr, sStore, ev, svs, Env.get, Heap.get, Heap.set, setO, OutOK_need, OutOK_stop, Option.isNone_none, undefS, undef, Bool.and_true, Bool.and_false, List.getElem?_toArray, List.getElem?_cons_succ, List.getElem?_cons_zero, List.map_cons, List.map_nil, ↓reduceIte, Nat.reduceAdd, Nat.reduceLT, Nat.reduceEqDiff, Nat.mul_one, Nat.add_one_ne_zero, ne_eq, not_false_eq_true, true_and, and_self, forall_const, gl0, Try.sz76, Try.ar76, Nb_len]
              (repeat (refine ⟨by first | omega | (refine ⟨?_, ?_⟩ <;> omega) | trivial | (simp; done) | decide +kernel, fun _ => ?_⟩))
              exact hj.less (by repeat' (first | exact EnvSub.nil _ | exact HeapSub.nil _ | refine EnvSub.cons rfl ?_ | refine HeapSub.cons rfl ?_ | (refine EnvSub.cons (by simp [Env.get]; done) ?_) | (refine HeapSub.cons (by simp [Heap.get]; done) ?_))) (by repeat' (first | exact EnvSub.nil _ | exact HeapSub.nil _ | refine EnvSub.cons rfl ?_ | refine HeapSub.cons rfl ?_ | (refine EnvSub.cons (by simp [Env.get]; done) ?_) | (refine HeapSub.cons (by simp [Heap.get]; done) ?_)))
            · have e1 := eq_false e1
              simp (disch := omega) only [sBuild0, exec_succ, runR_next, runR_fork_false, runR_guard_ft, runR_call, stepS, runOp, guardS, condS, toSR, sop, rOf, sPick, isArr, sLoad, sInt, sBin, sConv, sFieldAddr, sIndexAddr, fillS, evps, sBuild, ev, evs, svs, Env.get, over, paste, cellsS, Value.cells, OutOK_call, undefS, undef, List.size_toArray, List.length_cons, List.length_nil, List.range, List.range.loop, List.getElem?_toArray, List.getElem?_cons_succ, List.getElem?_cons_zero, List.map_cons, List.map_nil, Option.bind_some, List.toList_toArray, ↓reduceIte, Nat.reduceAdd, Nat.reduceLT, Nat.reduceEqDiff, Nat.zero_add, Nat.add_one_ne_zero, Bool.not_true, decide_false, and_self, reduceCtorEq, wrap_i64, wrap_u64, Try.underlying3, Try.underlying31, Try.ze44, Try.pl44, Try.ar44, hM, e1]
              (repeat (refine ⟨by first | omega | (refine ⟨?_, ?_⟩ <;> omega) | trivial | (simp; done) | decide +kernel, fun _ => ?_⟩))
              refine Does.ret hκ.hP hκ.hgl (c1) ⟨trivial, by simp [SV.bnd, SV.bndL], by first | (simp [SV.bnd, SV.bndL]; done) | assumption⟩ ?_
              refine hκ.run 300 ?_
              simp (disch := omega) only [exec_succ, runR_next, runR_call, stepS, runOp, toSR, sop, rOf, sInt, sBin, sConv, ev, evs, Env.get, setO, OutOK_call, List.getElem?_toArray, List.getElem?_cons_succ, List.getElem?_cons_zero, ↓reduceIte, Nat.reduceLT, Nat.reduceEqDiff, reduceCtorEq, wrap_i64, wrap_u64, gl0, Try.underlying2, Try.underlying31, hG]
              refine Does.ret hκ.hP hκ.hgl (c2) ⟨trivial, by simp [SV.bnd, SV.bndL], by first | (simp [SV.bnd, SV.bndL]; done) | assumption⟩ ?_
              refine hκ.run 300 ?_
              simp (disch := omega) only [allQuiet, quietOp, drawS, exec_succ, runR_next, runR_need, runR_stop, stepS, runOp, toSR, sop, rNew, sAlloc, sStoreArr, sStore, ev, svs, Env.get, Heap.get, Heap.set, setO, OutOK_need, OutOK_stop, Option.isNone_none, undefS, undef, Bool.and_true, Bool.and_false, List.getElem?_toArray, List.getElem?_cons_succ, List.getElem?_cons_zero, List.map_cons, List.map_nil, ↓reduceIte, Nat.reduceAdd, Nat.reduceLT, Nat.reduceEqDiff, Nat.mul_one, Nat.add_one_ne_zero, ne_eq, not_false_eq_true, true_and, and_self, forall_const, gl0, Try.sz76, Try.ar76, Nb_len]
              (repeat (refine ⟨by first | omega | (refine ⟨?_, ?_⟩ <;> omega) | trivial | (simp; done) | decide +kernel, fun _ => ?_⟩))
              exact hj.less (by repeat' (first | exact EnvSub.nil _ | exact HeapSub.nil _ | refine EnvSub.cons rfl ?_ | refine HeapSub.cons rfl ?_ | (refine EnvSub.cons (by simp [Env.get]; done) ?_) | (refine HeapSub.cons (by simp [Heap.get]; done) ?_))) (by repeat' (first | exact EnvSub.nil _ | exact HeapSub.nil _ | refine EnvSub.cons rfl ?_ | refine HeapSub.cons rfl ?_ | (refine EnvSub.cons (by simp [Env.get]; done) ?_) | (refine HeapSub.cons (by simp [Heap.get]; done) ?_)))
          intro _ _
          refine hκ.runD 300 ?_
          simp (disch := omega) only [OutOK_stop, halt, isDraw, drawC, execD_succ, gl0]
          refine hκ.draw (.q 0 (.q 1 (.q 2 (.l 3 [0] (.l 4 [0] (.q 5 (.l 6 [] (.l 7 [] (.fin))))))))) [0, 1, 2, 5] (by kernel_rfl) (by kernel_rfl) rfl ?_
          simp (disch := omega) only [sop, rOf, sLoadIn, sLoad, ev, evs, Env.get, Heap.get, setO, drawP_q, drawP_l, dq, dqn, dl, guardP, R1Q, dstOK, loudP, List.getElem?_toArray, List.getElem?_cons_succ, List.getElem?_cons_zero, ↓reduceIte, Nat.reduceLT, Nat.mul_one, Nat.add_one_ne_zero, true_and, and_self, forall_const, gl0, Try.sz76, Try.ag76, Nb_len]
          (repeat (refine ⟨by first | omega | (refine ⟨?_, ?_⟩ <;> omega) | trivial | (simp; done) | decide +kernel, fun _ => ?_⟩))
          refine DCall.of (Does.ret hκ.hP hκ.hgl (cn) ⟨trivial, by simp [SV.bnd, SV.bndL], by first | (simp [SV.bnd, SV.bndL]; done) | assumption⟩ ?_)
          simp (disch := omega) only [sop, sLoadIn, sLoad, ev, evs, Env.get, Heap.get, setO, drawP_l, dnext, dl, slotR, ag, guardP, dstOK, loudP, again, again1, slotIs, R1OK, List.getElem?_toArray, List.getElem?_cons_succ, List.getElem?_cons_zero, ↓reduceIte, Nat.reduceLT, Nat.reduceEqDiff, Nat.mul_one, Nat.add_one_ne_zero, true_and, and_self, forall_const, Try.sz76, Try.ag76, Nb_len]
          refine DCall.of (Does.ret hκ.hP hκ.hgl (cw) ⟨trivial, by simp [SV.bnd, SV.bndL], by first | (simp [SV.bnd, SV.bndL]; done) | assumption⟩ ?_)
          simp (disch := omega) only [sop, sLoadIn, sLoad, sConv, ev, evs, Env.get, Heap.get, setO, drawP_q, drawP_l, dnext, dq, dqn, dl, slotR, ag, guardP, R1Q, dstOK, loudP, again, again1, slotIs, R1OK, List.getElem?_toArray, List.getElem?_cons_succ, List.getElem?_cons_zero, ↓reduceIte, Nat.reduceLT, Nat.reduceEqDiff, Nat.mul_one, Nat.add_one_ne_zero, true_and, and_self, forall_const, wrap_u64, Try.underlying3, Try.underlying31, Try.sz76, Try.ag76, Nb_len]
          (repeat (refine ⟨by first | omega | (refine ⟨?_, ?_⟩ <;> omega) | trivial | (simp; done) | decide +kernel, fun _ => ?_⟩))
          refine DCall.of (Does.ret hκ.hP hκ.hgl (c3) ⟨trivial, by simp [SV.bnd, SV.bndL], by first | (simp [SV.bnd, SV.bndL]; done) | assumption⟩ ?_)
          simp (disch := omega) only [sop, sStoreArr, sStore, ev, Env.get, Heap.get, Heap.set, setO, drawP_fin, drawP_l, dnext, dl, guardP, dstOK, loudP, again, R1OK, undefS, undef, List.getElem?_toArray, List.getElem?_cons_succ, List.getElem?_cons_zero, ↓reduceIte, Nat.reduceEqDiff, Nat.mul_one, Nat.add_one_ne_zero, ne_eq, not_false_eq_true, true_and, and_self, forall_const, Try.sz76, Nb_len]
          (repeat (refine ⟨by first | omega | (refine ⟨?_, ?_⟩ <;> omega) | trivial | (simp; done) | decide +kernel, fun _ => ?_⟩))
          refine hκ.runD 300 ?_
          simp (disch := omega) only [runR_next, stepS, OutOK_stop, halt, isDraw, drawC, execD_succ, gl0]
          refine hκ.draw (.q 0 (.q 1 (.q 2 (.q 3 (.q 4 (.q 5 (.q 6 (.q 7 (.q 8 (.q 9 (.q 10 (.q 11 (.q 12 (.l 13 [5, 10] (.l 14 [] (.fin)))))))))))))))) [0, 1, 2, 3, 4, 5, 6, 7, 8, 9, 10, 11, 12] (by kernel_rfl) (by kernel_rfl) rfl ?_
          simp (disch := omega) only [sop, rOf, sLoadIn, sLoad, sInt, sBin, sConv, sFieldAddr, sIndexAddr, elemT, obind, ev, evs, Env.get, Heap.get, takeN, cut, aggOf, setO, drawP_q, drawP_l, dq, dqn, dl, guardP, R1Q, dstOK, loudP, List.length_map, List.getElem?_toArray, List.getElem?_cons_succ, List.getElem?_cons_zero, ↓reduceIte, Nat.reduceLT, Nat.reduceEqDiff, Nat.zero_add, Nat.mul_one, Nat.add_one_ne_zero, Int.toNat_natCast, true_and, and_self, forall_const, wrap_i64, wrap_u64, gl0, Try.underlying3, Try.sz3, Try.ag3, Try.underlying22, Try.underlying31, Try.sz54, Try.fd54f1, Try.sz76, Try.ag76, gi, gk, eP, hCn, Nb_len]
          (repeat (refine ⟨by first | omega | (refine ⟨?_, ?_⟩ <;> omega) | trivial | (simp; done) | decide +kernel, fun _ => ?_⟩))
          refine DCall.of (Does.ret hκ.hP hκ.hgl (c4) ⟨trivial, by simp [SV.bnd, SV.bndL], by first | (simp [SV.bnd, SV.bndL]; done) | assumption⟩ ?_)
          simp (disch := omega) only [sop, rOf, sLoad, sStoreArr, sStore, ev, Env.get, Heap.get, Heap.set, takeN, cut, aggOf, setO, drawP_fin, drawP_l, dnext, dl, slotR, ag, guardP, dstOK, loudP, again, again1, slotIs, R1OK, undefS, undef, List.getElem?_toArray, List.getElem?_cons_succ, List.getElem?_cons_zero, ↓reduceIte, Nat.reduceEqDiff, Nat.mul_one, Nat.add_one_ne_zero, ne_eq, not_false_eq_true, true_and, and_self, forall_const, Try.sz3, Try.ag3, Try.sz76, Nb_len]
          (repeat (refine ⟨by first | omega | (refine ⟨?_, ?_⟩ <;> omega) | trivial | (simp; done) | decide +kernel, fun _ => ?_⟩))
          apply Sat.join (α := Unit) (nx := 5) (dfs := []) (fun _ => True) (fun _ => ([(12, .ptr 3 0 0 0), (13, .ptr 4 0 0 0), (10, I k), (9, I i), (8, Bo F), (7, .ptr 1 0 0 0), (6, .ptr 0 0 0 0), (0, Ps l), (1, I m), (2, I gap)], [(4, .row 1 256 76 (Nb R)), (3, .row 1 256 76 (Nb Q)), (1, .own [U (B / 18446744073709551616), U (B % 18446744073709551616)] 44), (0, .own [U 0, U 0] 44)]))
          · intro hj
            have hj := hj () trivial
            refine hκ.runD 300 ?_
            simp (disch := omega) only [runR_next, stepS, OutOK_stop, halt, isDraw, drawC, execD_succ, gl0]
            refine hκ.draw (.q 0 (.q 1 (.q 2 (.q 3 (.q 4 (.q 5 (.q 6 (.q 7 (.q 8 (.q 9 (.q 10 (.q 11 (.q 12 (.q 13 (.or (.m 14 [0, 5, 10] (.or (.m 15 [5, 10] (.q 16 (.q 17 (.q 18 (.or (.m 19 [0, 5, 10] (.l 20 [0, 5, 10] (.l 21 [] (.l 22 [] (.fin))))) (.m 20 [0, 5, 10] (.l 19 [0, 5, 10] (.l 21 [] (.l 22 [] (.fin)))))))))) (.or (.m 19 [0, 5, 10] (.or (.m 15 [5, 10] (.q 16 (.q 17 (.q 18 (.l 20 [0, 5, 10] (.l 21 [] (.l 22 [] (.fin)))))))) (.m 20 [0, 5, 10] (.l 15 [5, 10] (.q 16 (.q 17 (.q 18 (.l 21 [] (.l 22 [] (.fin)))))))))) (.m 20 [0, 5, 10] (.or (.m 15 [5, 10] (.q 16 (.q 17 (.q 18 (.l 19 [0, 5, 10] (.l 21 [] (.l 22 [] (.fin)))))))) (.m 19 [0, 5, 10] (.l 15 [5, 10] (.q 16 (.q 17 (.q 18 (.l 21 [] (.l 22 [] (.fin))))))))))))) (.or (.m 19 [0, 5, 10] (.or (.m 14 [0, 5, 10] (.or (.m 15 [5, 10] (.q 16 (.q 17 (.q 18 (.l 20 [0, 5, 10] (.l 21 [] (.l 22 [] (.fin)))))))) (.m 20 [0, 5, 10] (.l 15 [5, 10] (.q 16 (.q 17 (.q 18 (.l 21 [] (.l 22 [] (.fin)))))))))) (.m 20 [0, 5, 10] (.l 14 [0, 5, 10] (.l 15 [5, 10] (.q 16 (.q 17 (.q 18 (.l 21 [] (.l 22 [] (.fin))))))))))) (.m 20 [0, 5, 10] (.or (.m 14 [0, 5, 10] (.or (.m 15 [5, 10] (.q 16 (.q 17 (.q 18 (.l 19 [0, 5, 10] (.l 21 [] (.l 22 [] (.fin)))))))) (.m 19 [0, 5, 10] (.l 15 [5, 10] (.q 16 (.q 17 (.q 18 (.l 21 [] (.l 22 [] (.fin)))))))))) (.m 19 [0, 5, 10] (.l 14 [0, 5, 10] (.l 15 [5, 10] (.q 16 (.q 17 (.q 18 (.l 21 [] (.l 22 [] (.fin))))))))))))))))))))))))))) [0, 1, 2, 3, 4, 5, 6, 7, 8, 9, 10, 11, 12, 13, 16, 17, 18] (by kernel_rfl) (by kernel_rfl) rfl ?_
            simp (disch := omega) only [sBuild0, sop, rOf, rNew, sAlloc, isArr, sLoadIn, sLoad, sInt, sBin, sConv, sFieldAddr, sIndexAddr, elemT, obind, fillS, evps, sBuild, ev, evs, svs, Env.get, Heap.get, takeN, cut, over, paste, aggOf, cellsS, setO, Value.cells, drawP_q, drawP_l, dnext, dq, dqn, dl, slotR, ag, guardP, R1Q, dstOK, loudP, again, again1, slotIs, R1OK, drawP_m, drawP_or, List.length_cons, List.length_nil, List.length_map, List.getElem?_toArray, List.getElem?_cons_succ, List.getElem?_cons_zero, List.map_cons, List.map_nil, List.toList_toArray, ↓reduceIte, Nat.reduceAdd, Nat.reduceLT, Nat.reduceEqDiff, Nat.zero_add, Nat.add_zero, Nat.mul_one, Nat.add_one_ne_zero, Int.toNat_natCast, true_and, and_self, forall_const, wrap_i64, wrap_u64, gl0, Try.underlying3, Try.sz3, Try.ag3, Try.underlying22, Try.underlying31, Try.ze44, Try.pl44, Try.ar44, Try.sz54, Try.fd54f0, Try.sz76, Try.ag76, Try.ar76, gi, gk, eP, hDn, Nb_len]
            (repeat (refine ⟨by first | omega | (refine ⟨?_, ?_⟩ <;> omega) | trivial | (simp; done) | decide +kernel, fun _ => ?_⟩))
            repeat' (refine And.intro ?_ ?_)
            all_goals
              refine DCall.of (Does.ret hκ.hP hκ.hgl (c5) ⟨trivial, by simp [SV.bnd, SV.bndL], by first | (simp [SV.bnd, SV.bndL]; done) | assumption⟩ ?_)
              simp (disch := omega) only [sop, rOf, rNew, sAlloc, sLoadIn, sLoad, ev, evs, svs, Env.get, Heap.get, takeN, cut, aggOf, setO, drawP_l, dnext, dl, slotR, ag, guardP, dstOK, loudP, again, again1, slotIs, R1OK, drawP_m, drawP_or, List.getElem?_toArray, List.getElem?_cons_succ, List.getElem?_cons_zero, List.map_cons, List.map_nil, ↓reduceIte, Nat.reduceAdd, Nat.reduceLT, Nat.reduceEqDiff, Nat.mul_one, Nat.add_one_ne_zero, true_and, and_self, forall_const, Try.sz3, Try.ag3, Try.sz76, Try.ag76, Try.ar76, Nb_len]
              (repeat (refine ⟨by first | omega | (refine ⟨?_, ?_⟩ <;> omega) | trivial | (simp; done) | decide +kernel, fun _ => ?_⟩))
            repeat' (refine And.intro ?_ ?_)
            all_goals
              refine DCall.of (Does.ret hκ.hP hκ.hgl (c6) ⟨trivial, by simp [SV.bnd, SV.bndL], by first | (simp [SV.bnd, SV.bndL]; done) | assumption⟩ ?_)
              simp (disch := omega) only [sop, rOf, rNew, sAlloc, sLoadIn, sLoad, sStoreArr, sStore, sExtract, ev, svs, Env.get, Heap.get, Heap.set, takeN, cut, aggOf, setO, drawP_fin, drawP_q, drawP_l, dnext, dq, dqn, dl, slotR, ag, guardP, R1Q, dstOK, loudP, again, again1, slotIs, R1OK, undefS, undef, drawP_m, drawP_or, List.getElem?_toArray, List.getElem?_cons_succ, List.getElem?_cons_zero, List.map_cons, List.map_nil, ↓reduceIte, Nat.reduceAdd, Nat.reduceLT, Nat.reduceEqDiff, Nat.mul_one, Nat.add_one_ne_zero, ne_eq, not_false_eq_true, true_and, and_self, forall_const, Try.sz3, Try.ag3, Try.sz76, Try.ag76, Try.ar76, Nb_len]
              (repeat (refine ⟨by first | omega | (refine ⟨?_, ?_⟩ <;> omega) | trivial | (simp; done) | decide +kernel, fun _ => ?_⟩))
            repeat' (refine And.intro ?_ ?_)
            all_goals first
              | (refine hj.less ?_ ?_ <;> (repeat' (first | exact EnvSub.nil _ | exact HeapSub.nil _ | refine EnvSub.cons rfl ?_ | refine HeapSub.cons rfl ?_)) <;> done)
              | refine Sat.via (fun i => if i = 3 then 4 else if i = 4 then 3 else i) (hj) (by intro i j; (repeat (first | omega | split))) (by repeat' (first | exact EnvVia.nil | refine EnvVia.cons (by first | trivial | decide | (simp [SV.bnd, SV.bndL]; done)) rfl ?_)) (by repeat' (first | exact HeapVia.nil | refine HeapVia.cons (by decide) (by first | trivial | (simp [Blk.bnd, SV.bnd, SV.bndL]; done) | exact bndL_mapV _ _ _ | exact LR.bnd (by rw [l2]; simp [bndE, SV.bnd, SV.bndL]) (by rw [l6]; decide)) (by first | rfl | (simp only [Blk.ren, renL_mapV]; rfl) | (rw [LR.ren (by rw [l2] <;> rfl) (by rw [l6] <;> rfl)]; rfl)) ?_)) ⟨by have := hκ.hm; (try dsimp only at this); (first | done | omega), fun i hi => by have := hκ.hm; (try dsimp only at this); (first | omega | (dsimp only; omega) | (rw [if_neg (by omega)]))⟩ ⟨by simp, rfl⟩
          intro _ _
          have c7 := bof_ok B (by omega)
          have ed : decide ((Nb R).map toB = (Nb 0).map toB) = decide (R = 0) := Nb_eq (by omega) (by decide)
          apply Sat.join (α := Unit) (nx := 5) (dfs := []) (fun _ => True) (fun _ => ([(12, .ptr 3 0 0 0), (10, I k), (9, I i), (8, Bo F), (7, .ptr 1 0 0 0), (6, .ptr 0 0 0 0), (0, Ps l), (1, I m), (2, I gap)], [(3, .row 1 256 76 (Nb V)), (1, .own [U (B / 18446744073709551616), U (B % 18446744073709551616)] 44), (0, .own [U 0, U 0] 44)]))
          · intro hj
            have hj := hj () trivial
            by_cases h0 : R = 0
            · rw [if_neg (by omega), Nat.add_zero] at hq2
              subst hq2
              rw [decide_eq_true h0] at ed
              refine hκ.runD 300 ?_
              simp (disch := omega) only [sBuildA, sEqArr, runR_next, runR_need, runR_fork_false, stepS, runOp, condS, toSR, sop, sLoadIn, sLoad, sBin, evps, sBuild, ev, svs, Env.get, Heap.get, OutOK_need, OutOK_stop, halt, isDraw, drawC, execD_succ, List.size_toArray, List.length_cons, List.length_nil, List.range, List.range.loop, List.getElem?_toArray, List.getElem?_cons_succ, List.getElem?_cons_zero, List.map_cons, List.map_nil, ↓reduceIte, Nat.reduceAdd, Nat.reduceLT, Nat.reduceEqDiff, Nat.zero_add, Nat.mul_one, Nat.add_one_ne_zero, Bool.not_true, true_and, and_self, forall_const, gl0, Try.sz76, Try.ag76, Try.ar76, Try.ea76, Nb_len, ez, ed, nbB]
              (repeat (refine ⟨by first | omega | (refine ⟨?_, ?_⟩ <;> omega) | trivial | (simp; done) | decide +kernel, fun _ => ?_⟩))
              exact hj.less (by repeat' (first | exact EnvSub.nil _ | exact HeapSub.nil _ | refine EnvSub.cons rfl ?_ | refine HeapSub.cons rfl ?_ | (refine EnvSub.cons (by simp [Env.get]; done) ?_) | (refine HeapSub.cons (by simp [Heap.get]; done) ?_))) (by repeat' (first | exact EnvSub.nil _ | exact HeapSub.nil _ | refine EnvSub.cons rfl ?_ | refine HeapSub.cons rfl ?_ | (refine EnvSub.cons (by simp [Env.get]; done) ?_) | (refine HeapSub.cons (by simp [Heap.get]; done) ?_)))
            · rw [if_pos (by omega)] at hq2
              rw [decide_eq_false h0] at ed
              have c8 := bsum_ok Q 1
              rw [← hq2] at c8
              refine hκ.runD 300 ?_
              simp (disch := omega) only [sBuildA, sEqArr, runR_next, runR_need, runR_fork_true, stepS, runOp, condS, toSR, sop, sLoadIn, sLoad, sBin, evps, sBuild, ev, svs, Env.get, Heap.get, OutOK_need, OutOK_stop, halt, isDraw, drawC, execD_succ, List.size_toArray, List.length_cons, List.length_nil, List.range, List.range.loop, List.getElem?_toArray, List.getElem?_cons_succ, List.getElem?_cons_zero, List.map_cons, List.map_nil, ↓reduceIte, Nat.reduceAdd, Nat.reduceLT, Nat.reduceEqDiff, Nat.zero_add, Nat.mul_one, Nat.add_one_ne_zero, Bool.not_false, true_and, and_self, forall_const, gl0, Try.sz76, Try.ag76, Try.ar76, Try.ea76, Nb_len, ez, ed, nbB]
              (repeat (refine ⟨by first | omega | (refine ⟨?_, ?_⟩ <;> omega) | trivial | (simp; done) | decide +kernel, fun _ => ?_⟩))
              refine hκ.draw (.q 0 (.q 1 (.l 2 [0] (.l 3 [] (.l 4 [] (.fin)))))) [0, 1] (by kernel_rfl) (by kernel_rfl) rfl ?_
              simp (disch := omega) only [sBuild0, sop, isArr, sLoadIn, sLoad, fillS, evps, sBuild, ev, evs, svs, Env.get, Heap.get, over, paste, cellsS, setO, Value.cells, drawP_q, drawP_l, dq, dqn, dl, guardP, R1Q, dstOK, loudP, List.length_cons, List.length_nil, List.getElem?_toArray, List.getElem?_cons_succ, List.getElem?_cons_zero, List.map_cons, List.map_nil, List.toList_toArray, ↓reduceIte, Nat.reduceLT, Nat.reduceEqDiff, Nat.zero_add, Nat.mul_one, Nat.add_one_ne_zero, true_and, and_self, forall_const, gl0, Try.ze44, Try.pl44, Try.ar44, Try.sz76, Try.ag76, Nb_len]
              (repeat (refine ⟨by first | omega | (refine ⟨?_, ?_⟩ <;> omega) | trivial | (simp; done) | decide +kernel, fun _ => ?_⟩))
              refine DCall.of (Does.ret hκ.hP hκ.hgl (cone) ⟨trivial, by simp [SV.bnd, SV.bndL], by first | (simp [SV.bnd, SV.bndL]; done) | assumption⟩ ?_)
              simp (disch := omega) only [sop, sLoadIn, sLoad, ev, evs, Env.get, Heap.get, setO, drawP_l, dnext, dl, slotR, ag, guardP, dstOK, loudP, again, again1, slotIs, R1OK, List.getElem?_toArray, List.getElem?_cons_succ, List.getElem?_cons_zero, ↓reduceIte, Nat.reduceLT, Nat.reduceEqDiff, Nat.mul_one, Nat.add_one_ne_zero, true_and, and_self, forall_const, Try.sz76, Try.ag76, Nb_len]
              refine DCall.of (Does.ret hκ.hP hκ.hgl (c8) ⟨trivial, by simp [SV.bnd, SV.bndL], by first | (simp [SV.bnd, SV.bndL]; done) | assumption⟩ ?_)
              simp (disch := omega) only [sop, sStoreArr, sStore, ev, Env.get, Heap.get, Heap.set, setO, drawP_fin, drawP_l, dnext, dl, guardP, dstOK, loudP, again, R1OK, undefS, undef, List.getElem?_toArray, List.getElem?_cons_succ, List.getElem?_cons_zero, ↓reduceIte, Nat.reduceEqDiff, Nat.mul_one, Nat.add_one_ne_zero, ne_eq, not_false_eq_true, true_and, and_self, forall_const, Try.sz76, Nb_len]
              (repeat (refine ⟨by first | omega | (refine ⟨?_, ?_⟩ <;> omega) | trivial | (simp; done) | decide +kernel, fun _ => ?_⟩))
              refine hκ.runD 300 ?_
              simp (disch := omega) only [runR_next, stepS, OutOK_stop, halt, isDraw, drawC, execD_succ, gl0]
              exact hj.less (by repeat' (first | exact EnvSub.nil _ | exact HeapSub.nil _ | refine EnvSub.cons rfl ?_ | refine HeapSub.cons rfl ?_ | (refine EnvSub.cons (by simp [Env.get]; done) ?_) | (refine HeapSub.cons (by simp [Heap.get]; done) ?_))) (by repeat' (first | exact EnvSub.nil _ | exact HeapSub.nil _ | refine EnvSub.cons rfl ?_ | refine HeapSub.cons rfl ?_ | (refine EnvSub.cons (by simp [Env.get]; done) ?_) | (refine HeapSub.cons (by simp [Heap.get]; done) ?_)))
          intro _ _
          have c9 := bnum_ok V (by omega)
          rw [Nat.mod_eq_of_lt (show V < 2 ^ 128 by omega), decide_eq_true (show V < 2 ^ 128 by omega)] at c9
          cases F
          · have hy := hz3 (.inl rfl)
            refine hκ.draw (.q 0 (.q 1 (.q 2 (.q 3 (.q 5 (.l 4 [5] (.l 6 [3] (.q 7 (.fin))))))))) [0, 1, 2, 3, 5, 7] (by kernel_rfl) (by kernel_rfl) rfl ?_
            simp (disch := omega) only [sop, rOf, sPick, sUn, ev, Env.get, setO, drawP_fin, drawP_q, drawP_l, dq, dqn, dl, ag, GF.tf, guardP, R1Q, dstOK, again, again1, slotIs, undefS, undef, List.getElem?_toArray, List.getElem?_cons_succ, List.getElem?_cons_zero, Option.bind_some, ↓reduceIte, Nat.reduceLT, Nat.reduceEqDiff, Bool.not_false, true_and, and_self, gl0]
            refine hκ.run 300 ?_
            simp (disch := omega) only [exec_succ, runR_next, runR_need, runR_fork_true, runR_call, stepS, runOp, condS, toSR, sop, sLoadIn, sLoad, ev, evs, Env.get, Heap.get, OutOK_need, OutOK_call, List.size_toArray, List.length_cons, List.length_nil, List.range, List.range.loop, List.getElem?_toArray, List.getElem?_cons_succ, List.getElem?_cons_zero, ↓reduceIte, Nat.reduceAdd, Nat.reduceLT, Nat.reduceEqDiff, Nat.zero_add, Nat.mul_one, Nat.add_one_ne_zero, true_and, and_self, forall_const, gl0, Try.sz76, Try.ag76, Nb_len]
            (repeat (refine ⟨by first | omega | (refine ⟨?_, ?_⟩ <;> omega) | trivial | (simp; done) | decide +kernel, fun _ => ?_⟩))
            refine Does.ret hκ.hP hκ.hgl (c9) ⟨trivial, by simp [SV.bnd, SV.bndL], by first | (simp [SV.bnd, SV.bndL]; done) | assumption⟩ ?_
            refine hκ.run 300 ?_
            simp (disch := omega) only [exec_succ, runR_next, runR_need, runR_stop, stepS, runOp, toSR, sop, rOf, sStoreIn, sStore, sInt, sBin, sExtract, ev, Env.get, Heap.get, Heap.set, over, paste, cellsS, one, ones, setO, Value.oneCell', OutOK_need, OutOK_stop, undefS, undef, List.size_toArray, List.length_cons, List.length_nil, List.range, List.range.loop, List.getElem?_toArray, List.getElem?_cons_succ, List.getElem?_cons_zero, ↓reduceIte, Nat.reduceAdd, Nat.reduceLT, Nat.reduceEqDiff, Nat.zero_add, true_and, and_self, forall_const, wrap_i64, gl0, Try.sz44]
            refine Sat.via (fun i => i) (hy) (by intro i j; (repeat (first | omega | split))) (by repeat' (first | exact EnvVia.nil | refine EnvVia.cons (by first | trivial | decide | (simp [SV.bnd, SV.bndL]; done)) rfl ?_)) (by repeat' (first | exact HeapVia.nil | refine HeapVia.cons (by decide) (by first | trivial | (simp [Blk.bnd, SV.bnd, SV.bndL]; done) | exact bndL_mapV _ _ _ | exact LR.bnd (by rw [l2]; simp [bndE, SV.bnd, SV.bndL]) (by rw [l6]; decide)) (by first | rfl | (simp only [Blk.ren, renL_mapV]; rfl) | (rw [LR.ren (by rw [l2] <;> rfl) (by rw [l6] <;> rfl)]; rfl)) ?_)) ⟨by have := hκ.hm; (try dsimp only at this); (first | done | omega), fun i hi => by have := hκ.hm; (try dsimp only at this); (first | omega | (dsimp only; omega) | (rw [if_neg (by omega)]))⟩ ⟨by simp, rfl⟩
          · have c10 := bless_ok B V (by omega) (by omega)
            by_cases hlt : B < V
            · have hy := hz3 (.inr hlt)
              rw [decide_eq_true hlt] at c10
              refine hκ.draw (.q 0 (.q 1 (.q 2 (.q 3 (.q 5 (.l 4 [5] (.l 6 [3] (.q 7 (.fin))))))))) [0, 1, 2, 3, 5, 7] (by kernel_rfl) (by kernel_rfl) rfl ?_
              simp (disch := omega) only [sop, rOf, sLoadIn, sLoad, sUn, ev, evs, Env.get, Heap.get, takeN, cut, aggOf, setO, drawP_q, drawP_l, dq, dqn, dl, GF.ff, guardP, R1Q, dstOK, loudP, List.getElem?_toArray, List.getElem?_cons_succ, List.getElem?_cons_zero, Option.bind_some, ↓reduceIte, Nat.reduceLT, Nat.reduceEqDiff, Nat.mul_one, Nat.add_one_ne_zero, Bool.not_true, true_and, and_self, forall_const, gl0, Try.sz44, Try.ag44, Try.sz76, Try.ag76, Nb_len]
              (repeat (refine ⟨by first | omega | (refine ⟨?_, ?_⟩ <;> omega) | trivial | (simp; done) | decide +kernel, fun _ => ?_⟩))
              refine DCall.of (Does.ret hκ.hP hκ.hgl (c7) ⟨trivial, by simp [SV.bnd, SV.bndL], by first | (simp [SV.bnd, SV.bndL]; done) | assumption⟩ ?_)
              simp (disch := omega) only [sop, sLoadIn, sLoad, ev, evs, Env.get, Heap.get, setO, drawP_l, dnext, dl, slotR, ag, GF.ff, guardP, dstOK, loudP, again, again1, slotIs, R1OK, List.getElem?_toArray, List.getElem?_cons_succ, List.getElem?_cons_zero, Option.bind_some, ↓reduceIte, Nat.reduceLT, Nat.reduceEqDiff, Nat.mul_one, Nat.add_one_ne_zero, true_and, and_self, forall_const, Try.sz76, Try.ag76, Nb_len]
              refine DCall.of (Does.ret hκ.hP hκ.hgl (c10) ⟨trivial, by simp [SV.bnd, SV.bndL], by first | (simp [SV.bnd, SV.bndL]; done) | assumption⟩ ?_)
              simp (disch := omega) only [sop, rOf, sPick, sLoadIn, sLoad, ev, Env.get, Heap.get, takeN, cut, aggOf, setO, drawP_fin, drawP_q, dnext, dq, dqn, slotR, ag, GF.ff, guardP, R1Q, dstOK, again, again1, slotIs, R1OK, List.getElem?_toArray, List.getElem?_cons_succ, List.getElem?_cons_zero, Option.bind_some, ↓reduceIte, Nat.reduceLT, Nat.reduceEqDiff, true_and, and_self, Try.sz44, Try.ag44]
              (repeat (refine ⟨by first | omega | (refine ⟨?_, ?_⟩ <;> omega) | trivial | (simp; done) | decide +kernel, fun _ => ?_⟩))
              refine hκ.run 300 ?_
              simp (disch := omega) only [exec_succ, runR_next, runR_need, runR_fork_true, runR_call, stepS, runOp, condS, toSR, sop, sLoadIn, sLoad, ev, evs, Env.get, Heap.get, OutOK_need, OutOK_call, List.size_toArray, List.length_cons, List.length_nil, List.range, List.range.loop, List.getElem?_toArray, List.getElem?_cons_succ, List.getElem?_cons_zero, ↓reduceIte, Nat.reduceAdd, Nat.reduceLT, Nat.reduceEqDiff, Nat.zero_add, Nat.mul_one, Nat.add_one_ne_zero, true_and, and_self, forall_const, gl0, Try.sz76, Try.ag76, Nb_len]
              (repeat (refine ⟨by first | omega | (refine ⟨?_, ?_⟩ <;> omega) | trivial | (simp; done) | decide +kernel, fun _ => ?_⟩))
              refine Does.ret hκ.hP hκ.hgl (c9) ⟨trivial, by simp [SV.bnd, SV.bndL], by first | (simp [SV.bnd, SV.bndL]; done) | assumption⟩ ?_
              refine hκ.run 300 ?_
              simp (disch := omega) only [exec_succ, runR_next, runR_need, runR_stop, stepS, runOp, toSR, sop, rOf, sStoreIn, sStore, sInt, sBin, sExtract, ev, Env.get, Heap.get, Heap.set, over, paste, cellsS, one, ones, setO, Value.oneCell', OutOK_need, OutOK_stop, undefS, undef, List.size_toArray, List.length_cons, List.length_nil, List.range, List.range.loop, List.getElem?_toArray, List.getElem?_cons_succ, List.getElem?_cons_zero, ↓reduceIte, Nat.reduceAdd, Nat.reduceLT, Nat.reduceEqDiff, Nat.zero_add, true_and, and_self, forall_const, wrap_i64, gl0, Try.sz44]
              refine Sat.via (fun i => i) (hy) (by intro i j; (repeat (first | omega | split))) (by repeat' (first | exact EnvVia.nil | refine EnvVia.cons (by first | trivial | decide | (simp [SV.bnd, SV.bndL]; done)) rfl ?_)) (by repeat' (first | exact HeapVia.nil | refine HeapVia.cons (by decide) (by first | trivial | (simp [Blk.bnd, SV.bnd, SV.bndL]; done) | exact bndL_mapV _ _ _ | exact LR.bnd (by rw [l2]; simp [bndE, SV.bnd, SV.bndL]) (by rw [l6]; decide)) (by first | rfl | (simp only [Blk.ren, renL_mapV]; rfl) | (rw [LR.ren (by rw [l2] <;> rfl) (by rw [l6] <;> rfl)]; rfl)) ?_)) ⟨by have := hκ.hm; (try dsimp only at this); (first | done | omega), fun i hi => by have := hκ.hm; (try dsimp only at this); (first | omega | (dsimp only; omega) | (rw [if_neg (by omega)]))⟩ ⟨by simp, rfl⟩
            · have hy := hz4 rfl hlt
              rw [decide_eq_false hlt] at c10
              refine hκ.draw (.q 0 (.q 1 (.q 2 (.q 3 (.q 5 (.l 4 [5] (.l 6 [3] (.q 7 (.fin))))))))) [0, 1, 2, 3, 5, 7] (by kernel_rfl) (by kernel_rfl) rfl ?_
              simp (disch := omega) only [sop, rOf, sLoadIn, sLoad, sUn, ev, evs, Env.get, Heap.get, takeN, cut, aggOf, setO, drawP_q, drawP_l, dq, dqn, dl, GF.ff, guardP, R1Q, dstOK, loudP, List.getElem?_toArray, List.getElem?_cons_succ, List.getElem?_cons_zero, Option.bind_some, ↓reduceIte, Nat.reduceLT, Nat.reduceEqDiff, Nat.mul_one, Nat.add_one_ne_zero, Bool.not_true, true_and, and_self, forall_const, gl0, Try.sz44, Try.ag44, Try.sz76, Try.ag76, Nb_len]
              (repeat (refine ⟨by first | omega | (refine ⟨?_, ?_⟩ <;> omega) | trivial | (simp; done) | decide +kernel, fun _ => ?_⟩))
              refine DCall.of (Does.ret hκ.hP hκ.hgl (c7) ⟨trivial, by simp [SV.bnd, SV.bndL], by first | (simp [SV.bnd, SV.bndL]; done) | assumption⟩ ?_)
              simp (disch := omega) only [sop, sLoadIn, sLoad, ev, evs, Env.get, Heap.get, setO, drawP_l, dnext, dl, slotR, ag, GF.ff, guardP, dstOK, loudP, again, again1, slotIs, R1OK, List.getElem?_toArray, List.getElem?_cons_succ, List.getElem?_cons_zero, Option.bind_some, ↓reduceIte, Nat.reduceLT, Nat.reduceEqDiff, Nat.mul_one, Nat.add_one_ne_zero, true_and, and_self, forall_const, Try.sz76, Try.ag76, Nb_len]
              refine DCall.of (Does.ret hκ.hP hκ.hgl (c10) ⟨trivial, by simp [SV.bnd, SV.bndL], by first | (simp [SV.bnd, SV.bndL]; done) | assumption⟩ ?_)
              simp (disch := omega) only [sop, rOf, sPick, sLoadIn, sLoad, ev, Env.get, Heap.get, takeN, cut, aggOf, setO, drawP_fin, drawP_q, dnext, dq, dqn, slotR, ag, GF.ff, guardP, R1Q, dstOK, again, again1, slotIs, R1OK, List.getElem?_toArray, List.getElem?_cons_succ, List.getElem?_cons_zero, Option.bind_some, ↓reduceIte, Nat.reduceLT, Nat.reduceEqDiff, true_and, and_self, Try.sz44, Try.ag44]
              (repeat (refine ⟨by first | omega | (refine ⟨?_, ?_⟩ <;> omega) | trivial | (simp; done) | decide +kernel, fun _ => ?_⟩))
              refine hκ.run 300 ?_
              simp (disch := omega) only [exec_succ, runR_next, runR_fork_false, runR_stop, stepS, runOp, condS, toSR, sop, rOf, sInt, sBin, ev, Env.get, OutOK_stop, List.size_toArray, List.length_cons, List.length_nil, List.range, List.range.loop, List.getElem?_toArray, List.getElem?_cons_succ, List.getElem?_cons_zero, ↓reduceIte, Nat.reduceAdd, Nat.reduceLT, Nat.reduceEqDiff, Nat.zero_add, wrap_i64, gl0]
              refine Sat.via (fun i => i) (hy) (by intro i j; (repeat (first | omega | split))) (by repeat' (first | exact EnvVia.nil | refine EnvVia.cons (by first | trivial | decide | (simp [SV.bnd, SV.bndL]; done)) rfl ?_)) (by repeat' (first | exact HeapVia.nil | refine HeapVia.cons (by decide) (by first | trivial | (simp [Blk.bnd, SV.bnd, SV.bndL]; done) | exact bndL_mapV _ _ _ | exact LR.bnd (by rw [l2]; simp [bndE, SV.bnd, SV.bndL]) (by rw [l6]; decide)) (by first | rfl | (simp only [Blk.ren, renL_mapV]; rfl) | (rw [LR.ren (by rw [l2] <;> rfl) (by rw [l6] <;> rfl)]; rfl)) ?_)) ⟨by have := hκ.hm; (try dsimp only at this); (first | done | omega), fun i hi => by have := hκ.hm; (try dsimp only at this); (first | omega | (dsimp only; omega) | (rw [if_neg (by omega)]))⟩ ⟨by simp, rfl⟩
        · obtain rfl : k = l.length := by omega
          have hy := hz B F hB hmx.row
          simp (disch := omega) only [exec_succ, runR_next, runR_stop, stepS, runOp, goS, toSR, sop, rOf, sInt, sBin, ev, Env.get, exitTo, OutOK_stop, List.size_toArray, List.length_cons, List.length_nil, List.range, List.range.loop, List.getElem?_toArray, List.getElem?_cons_succ, List.getElem?_cons_zero, ↓reduceIte, Nat.reduceAdd, Nat.reduceLT, Nat.reduceEqDiff, Nat.zero_add, beq_self_eq_true, wrap_i64]
          refine Sat.via (fun i => i) (hy) (by intro i j; (repeat (first | omega | split))) (by repeat' (first | exact EnvVia.nil | refine EnvVia.cons (by first | trivial | decide | (simp [SV.bnd, SV.bndL]; done)) rfl ?_)) (by repeat' (first | exact HeapVia.nil | refine HeapVia.cons (by decide) (by first | trivial | (simp [Blk.bnd, SV.bnd, SV.bndL]; done) | exact bndL_mapV _ _ _ | exact LR.bnd (by rw [l2]; simp [bndE, SV.bnd, SV.bndL]) (by rw [l6]; decide)) (by first | rfl | (simp only [Blk.ren, renL_mapV]; rfl) | (rw [LR.ren (by rw [l2] <;> rfl) (by rw [l6] <;> rfl)]; rfl)) ?_)) ⟨by have := hκ.hm; (try dsimp only at this); (first | done | omega), fun i hi => by have := hκ.hm; (try dsimp only at this); (first | omega | (dsimp only; omega) | (rw [if_neg (by omega)]))⟩ ⟨by simp, rfl⟩
    · simp (disch := omega) only [exec_succ, runR_next, runR_need, runR_stop, stepS, runOp, goS, toSR, sop, rOf, sLoadIn, sLoad, sStoreIn, sStore, ev, Env.get, Heap.get, Heap.set, takeN, cut, over, paste, aggOf, cellsS, one, ones, exitTo, Value.oneCell', OutOK_need, OutOK_stop, undefS, undef, List.size_toArray, List.length_cons, List.length_nil, List.range, List.range.loop, List.getElem?_toArray, List.getElem?_cons_succ, List.getElem?_cons_zero, ↓reduceIte, Nat.reduceAdd, Nat.reduceLT, Nat.reduceEqDiff, Nat.zero_add, Nat.add_one_ne_zero, beq_self_eq_true, true_and, and_self, forall_const, Try.sz44, Try.ag44]
      obtain rfl : i = l.length := by omega
      rw [hfull N B F hmx]
      refine hκ.ret _ _ _ _ _ _ trivial rfl ?_
      exact .ret (by simp [SV.bnd, SV.bndL])
end Go.Proofs.Ytomfpciigaopiaa

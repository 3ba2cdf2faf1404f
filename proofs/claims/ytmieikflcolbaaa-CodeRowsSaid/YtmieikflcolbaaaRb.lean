/- The document's words: numbers, lists, masks, as bytes. No condition. -/
import Derived.Test.YtmieikflcolbaaaWa
import Derived.Test.YtmieikflcolbaaaVh
namespace Go.Proofs.Ytmieikflcolbaaa
open Go Go.Sy
set_option maxRecDepth 100000
set_option linter.unusedSimpArgs false
set_option linter.unusedVariables false
set_option maxHeartbeats 4000000
theorem sub_ok (a : Evt) : Con Try.prog gl0 (fnv 37) [Ev a] 0 [] (Ret (I (if a.1 0 = 1 then a.1 1 else if a.1 0 = 2 then a.1 15 else 0))) := by
  by_cases h1 : a.1 0 = 1
  · rw [if_pos h1]
    refine Con.of Try.ok37 (nt := 15) (res := [.tmp 2]) Try.mixed Try.func37 rfl rfl rfl rfl fun κ xc hκ => hκ.run 300 ?_
    simp (disch := omega) only [push_cast, simprocAttr, ec, h1]
    refine hκ.ret _ _ _ _ _ _ trivial rfl ?_
    exact .ret trivial
  rw [if_neg h1]
  by_cases h2 : a.1 0 = 2
  · rw [if_pos h2]
    refine Con.of Try.ok37 (nt := 15) (res := [.tmp 2]) Try.mixed Try.func37 rfl rfl rfl rfl fun κ xc hκ => hκ.run 300 ?_
    simp (disch := omega) only [push_cast, simprocAttr, ec, h2]
    refine hκ.ret _ _ _ _ _ _ trivial rfl ?_
    exact .ret trivial
  rw [if_neg h2]
  refine Con.of Try.ok37 (nt := 15) (res := [.tmp 2]) Try.mixed Try.func37 rfl rfl rfl rfl fun κ xc hκ => hκ.run 300 ?_
  simp (disch := omega) only [push_cast, simprocAttr, ec, h1, h2]
  refine hκ.ret _ _ _ _ _ _ trivial rfl ?_
  exact .ret trivial
def kE (k c d : Int) : Evt := (fun i => if i = 0 then k else if i = 1 then c else if i = 15 then d else 0, [], [])
theorem nilK (k c d : Int) : ∀ ν vs, RelL ν [I k, I c, I 0, I 0, I 0, Bo false, .v (.slice none 0 0), I 0, I 0, I 0, I 0, I 0, I 0, U 0, U 0, I d, I 0, I 0, I 0, I 0, I 0, I 0, I 0, I 0, U 0, U 0, U 0, .v (.slice none 0 0), I 0] vs → RelL ν (ec (kE k c d)) vs := by
  intro ν
  show ∀ vs, _ → RelL ν [I k, I c, I 0, I 0, I 0, Bo false, .rd 1 [], I 0, I 0, I 0, I 0, I 0, I 0, U 0, U 0, I d, I 0, I 0, I 0, I 0, I 0, I 0, I 0, I 0, U 0, U 0, U 0, .rd 1 [], I 0] vs
  repeat' (first | exact (fun vs h => h) | refine RelL.nilrd ?_ | refine RelL.keep ?_)
def begR (k s : Int) : Evt := kE k (if k = 1 then s else 0) (if k = 2 then s else 0)
theorem begun_ok (k s : Int) : Con Try.prog gl0 (fnv 38) [I k, I s] 0 [] (Ret (Ev (begR k s))) := by
  refine Con.repR (fun ν => Rel.aggMap (nilK k _ _ ν)) ?_
  by_cases h1 : k = 1
  · subst h1
    rw [if_pos rfl, if_neg (by decide)]
    refine Con.of Try.ok38 (nt := 19) (res := [.cell 4 37]) Try.mixed Try.func38 rfl rfl rfl rfl fun κ xc hκ => hκ.run 300 ?_
    simp (disch := omega) only [push_cast, simprocAttr]
    refine hκ.ret _ _ _ _ _ _ trivial rfl ?_
    exact .ret (by simp [SV.bnd, SV.bndL])
  rw [if_neg h1]
  by_cases h2 : k = 2
  · subst h2
    rw [if_pos rfl]
    refine Con.of Try.ok38 (nt := 19) (res := [.cell 4 37]) Try.mixed Try.func38 rfl rfl rfl rfl fun κ xc hκ => hκ.run 300 ?_
    simp (disch := omega) only [push_cast, simprocAttr]
    refine hκ.ret _ _ _ _ _ _ trivial rfl ?_
    exact .ret (by simp [SV.bnd, SV.bndL])
  rw [if_neg h2]
  refine Con.of Try.ok38 (nt := 19) (res := [.cell 4 37]) Try.mixed Try.func38 rfl rfl rfl rfl fun κ xc hκ => hκ.run 300 ?_
  simp (disch := omega) only [push_cast, simprocAttr, h1, h2]
  refine hκ.ret _ _ _ _ _ _ trivial rfl ?_
  exact .ret (by simp [SV.bnd, SV.bndL])
theorem fewR_ok (l : List Int) (hn : l.length < 2 ^ 62) : Con Try.prog gl0 (fnv 41) [Is l] 0 [] (Ret (Bo (fitL l))) := by
  refine Con.of Try.ok41 (nt := 21) (res := [.tmp 2]) Try.mixed Try.func41 rfl rfl rfl rfl fun κ xc hκ => hκ.run 300 ?_
  simp (disch := omega) only [push_cast, simprocAttr]
  refine Sat.less (Sat.loop (γ := Nat) (fun k => ([(7, I k), (6, I l.length), (5, Is l), (0, Is l)], [], 0)) (fun k => l.length - k)
    (fun k => k ≤ l.length ∧ (l.take k).all fun x => decide (0 ≤ x ∧ x < 256)) ?round 0 ⟨by omega, by simp⟩) (by repeat' (first | exact EnvSub.nil _ | exact HeapSub.nil _ | refine EnvSub.cons rfl ?_ | refine HeapSub.cons rfl ?_ | (refine EnvSub.cons (by simp [Env.get]; done) ?_) | (refine HeapSub.cons (by simp [Heap.get]; done) ?_))) (by repeat' (first | exact EnvSub.nil _ | exact HeapSub.nil _ | refine EnvSub.cons rfl ?_ | refine HeapSub.cons rfl ?_ | (refine EnvSub.cons (by simp [Env.get]; done) ?_) | (refine HeapSub.cons (by simp [Heap.get]; done) ?_)))
  case round =>
    rintro k ⟨hk, hl⟩ ih
    dsimp only at hk hl ih ⊢
    by_cases hkl : k < l.length
    · have q1 : ((k : Int) < l.length) = True := by first | (simp only [eq_iff_iff, iff_true]; first | assumption | omega) | (simp; omega)
      have hs : l.take (k + 1) = l.take k ++ [l.getD k default] := by
        rw [List.take_succ_eq_append_getElem hkl, List.getD, List.getElem?_eq_getElem hkl]; rfl
      have hm : l.getD k default ∈ l := by
        rw [List.getD, List.getElem?_eq_getElem hkl]; exact List.getElem_mem _
      have gk : (List.map (eI .i64) l).getD k [] = eI .i64 (l.getD k default) := getD_map _ _ _ hkl
      have hz := fun h => ih (k + 1) ⟨by omega, h⟩ (by omega)
      rw [hs] at hz
      clear ih
      generalize l.getD k default = x at *
      by_cases hx : 0 ≤ x ∧ x < 256
      · have q2 : (x < 0) = False := by first | (simp only [eq_iff_iff, iff_false]; first | assumption | omega) | (simp; omega)
        have q3 : (255 < x) = False := by first | (simp only [eq_iff_iff, iff_false]; first | assumption | omega) | (simp; omega)
        refine hκ.run 300 ?_
        simp (disch := omega) only [push_cast, simprocAttr, q1, q2, q3, gk]
        (repeat (refine ⟨by first | omega | (refine ⟨?_, ?_⟩ <;> omega) | trivial | (simp; done) | decide +kernel, fun _ => ?_⟩))
        exact (hz (by rw [List.all_append, hl]; simp [hx])).less (by repeat' (first | exact EnvSub.nil _ | exact HeapSub.nil _ | refine EnvSub.cons rfl ?_ | refine HeapSub.cons rfl ?_ | (refine EnvSub.cons (by simp [Env.get]; done) ?_) | (refine HeapSub.cons (by simp [Heap.get]; done) ?_))) (by repeat' (first | exact EnvSub.nil _ | exact HeapSub.nil _ | refine EnvSub.cons rfl ?_ | refine HeapSub.cons rfl ?_ | (refine EnvSub.cons (by simp [Env.get]; done) ?_) | (refine HeapSub.cons (by simp [Heap.get]; done) ?_)))
      · have hf : fitL l = false := by
          rw [fitL]
          have : (l.all fun x => decide (0 ≤ x ∧ x < 256)) = false := by
            rw [List.all_eq_false]
            exact ⟨x, hm, by simpa using hx⟩
          rw [this, Bool.and_false]
        rw [hf] at hκ
        by_cases h0 : x < 0
        · have q2 : (x < 0) = True := by first | (simp only [eq_iff_iff, iff_true]; first | assumption | omega) | (simp; omega)
          refine hκ.run 300 ?_
          simp (disch := omega) only [push_cast, simprocAttr, q1, q2, gk]
          (repeat (refine ⟨by first | omega | (refine ⟨?_, ?_⟩ <;> omega) | trivial | (simp; done) | decide +kernel, fun _ => ?_⟩))
          refine hκ.ret _ _ _ _ _ _ trivial rfl ?_
          exact .ret trivial
        · have q2 : (x < 0) = False := by first | (simp only [eq_iff_iff, iff_false]; first | assumption | omega) | (simp; omega)
          have q3 : (255 < x) = True := by first | (simp only [eq_iff_iff, iff_true]; first | assumption | omega) | (simp; omega)
          refine hκ.run 300 ?_
          simp (disch := omega) only [push_cast, simprocAttr, q1, q2, q3, gk]
          (repeat (refine ⟨by first | omega | (refine ⟨?_, ?_⟩ <;> omega) | trivial | (simp; done) | decide +kernel, fun _ => ?_⟩))
          refine hκ.ret _ _ _ _ _ _ trivial rfl ?_
          exact .ret trivial
    · obtain rfl : k = l.length := by omega
      rw [List.take_length] at hl
      have hf : fitL l = decide ((l.length : Int) ≤ 32) := by
        rw [fitL, hl, Bool.and_true]
        exact decide_eq_decide.2 ⟨fun h => by omega, fun h => by omega⟩
      rw [hf] at hκ
      have q1 : ((l.length : Int) < l.length) = False := by first | (simp only [eq_iff_iff, iff_false]; first | assumption | omega) | (simp; omega)
      refine hκ.run 300 ?_
      simp (disch := omega) only [push_cast, simprocAttr, q1]
      refine hκ.ret _ _ _ _ _ _ trivial rfl ?_
      exact .ret trivial
theorem num44_ok (n : Int) (w : Nat) (h0 : 0 ≤ n ∧ n < 18446744073709551616) (hw : w ≤ 8) : Con Try.prog gl0 (fnv 44) [.v (.int .u64 n), I w] 0 [] (RetRow 5 1 ((dig n w).map (eI .u8))) := by
  refine Con.of Try.ok44 (nt := 22) (res := [.tmp 4]) Try.mixed Try.func44 rfl rfl rfl rfl fun κ xc hκ => hκ.run 300 ?_
  simp (disch := omega) only [push_cast, simprocAttr]
  refine Sat.nilRow 5 1 5 rfl ?_
  refine Sat.less (Sat.loop (γ := Nat × List Int × Nat) (fun g => ([(6, I ((g.1 : Int) - 1)), (0, .v (.int .u64 n)), (5, .sl 0 1 0 g.2.1.length g.2.2)], [(0, .row 1 g.2.2 5 (g.2.1.map (eI .u8)))], 1)) (fun g => g.1)
    (fun g => g.1 ≤ w ∧ g.2.1.length ≤ g.2.2 ∧ g.2.1 ++ dig n g.1 = dig n w) ?round (w, [], 0) ⟨Nat.le_refl _, Nat.le_refl _, rfl⟩) (by repeat' (first | exact EnvSub.nil _ | exact HeapSub.nil _ | refine EnvSub.cons rfl ?_ | refine HeapSub.cons rfl ?_ | (refine EnvSub.cons (by simp [Env.get]; done) ?_) | (refine HeapSub.cons (by simp [Heap.get]; done) ?_))) (by repeat' (first | exact EnvSub.nil _ | exact HeapSub.nil _ | refine EnvSub.cons rfl ?_ | refine HeapSub.cons rfl ?_ | (refine EnvSub.cons (by simp [Env.get]; done) ?_) | (refine HeapSub.cons (by simp [Heap.get]; done) ?_)))
  case round =>
    rintro ⟨k, pre, cp⟩ ⟨hk, hcp, hl⟩ ih
    dsimp only at hk hcp hl ih ⊢
    have hpl : pre.length + k = w := by have := congrArg List.length hl; simpa [dig_length] using this
    rcases k with _ | j
    · rw [show dig n w = pre by rw [← hl]; simp [dig]] at hκ
      refine hκ.run 300 ?_
      simp (disch := omega) only [push_cast, simprocAttr]
      refine hκ.ret _ _ _ _ _ _ trivial rfl ?_
      exact Post.row rfl (by simp)
    · have e0 : (j : Int) + 1 - 1 = j := by omega
      have hz := fun c h => ih (j, pre ++ [n / 256 ^ j % 256], c) ⟨by dsimp only; omega, h, by rw [← hl]; simp [dig]⟩ (by dsimp only; omega)
      dsimp only at hz
      have et : List.take pre.length (List.map (eI .u8) pre) = List.map (eI .u8) pre := List.take_of_length_le (by simp)
      refine hκ.run 300 ?_
      simp (disch := omega) only [push_cast, simprocAttr, e0]
      refine OutOK_fork (fun _ => ?_) (fun h => (by first | (have h := of_decide_eq_false h; omega) | (simp only [Bool.not_true, Bool.not_false, decide_eq_true_eq, decide_eq_false_iff_not, Bool.not_eq_true', Bool.not_eq_false', Bool.and_eq_true, Bool.or_eq_false_iff, Bool.or_eq_true, Bool.and_eq_false_iff] at h; omega)))
      simp (disch := omega) only [push_cast, simprocAttr, e0]
      (repeat (refine ⟨by first | omega | (refine ⟨?_, ?_⟩ <;> omega) | trivial | (simp; done) | decide +kernel, fun _ => ?_⟩))
      intro i
      rw [shrB, et]
      have hy := hz (pre.length + 1 + i) (by simp)
      simp only [List.length_append, List.length_cons, List.length_nil, List.length_singleton, List.length_map, List.length_set, List.length_replicate, Nat.zero_add, Nat.add_zero, Int.natCast_add, Int.natCast_one, Int.ofNat_eq_natCast, List.map_append, List.map_cons, List.map_nil, List.take_length, eI, eB] at hy ⊢
      refine Sat.via (fun i => if i = 0 then 2 else i) (hy) (by intro i j; (repeat (first | omega | split))) (by repeat' (first | exact EnvVia.nil | refine EnvVia.cons (by first | trivial | decide | (simp [SV.bnd, SV.bndL]; done)) rfl ?_)) (by repeat' (first | exact HeapVia.nil | refine HeapVia.cons (by decide) (by first | trivial | exact Blk.bnd_own0 (by assumption) | (simp [Blk.bnd, SV.bnd, SV.bndL]; done) | exact bndL_mapV _ _ _ | exact LR.bnd (by rw [l2]; simp [bndE, SV.bnd, SV.bndL]) (by rw [l6]; decide)) (by first | (rw [Blk.ren_own0 (by assumption)]; rfl) | rfl | (simp only [Blk.ren, renL_mapV]; rfl) | (rw [LR.ren (by rw [l2] <;> rfl) (by rw [l6] <;> rfl)]; rfl)) ?_)) ⟨by have := hκ.hm; (try dsimp only at this); (first | done | omega), fun i hi => by have := hκ.hm; (try dsimp only at this); (first | omega | (dsimp only; omega) | (rw [if_neg (by omega)]))⟩ ⟨by simp, rfl⟩
theorem mask42_ok (h s : Int) (h0 : 0 ≤ h ∧ h < 4294967296) (s0 : 0 ≤ s ∧ s < 4294967296) : Con Try.prog gl0 (fnv 42) [.agg [U h, U s]] 0 [] (RetRow 5 1 ((dig h 4 ++ dig s 4).map (eI .u8))) := by
  have c1 := num44_ok h 4 (by omega) (by decide)
  have c2 := num44_ok s 4 (by omega) (by decide)
  have l1 : (dig h 4).length = 4 := dig_length _ _
  have l2 : (dig s 4).length = 4 := dig_length _ _
  generalize dig h 4 = p at *
  generalize dig s 4 = q at *
  refine Con.of Try.ok42 (nt := 12) (res := [.tmp 2]) Try.mixed Try.func42 rfl rfl rfl rfl fun κ xc hκ => hκ.runD 300 ?_
  simp (disch := omega) only [push_cast, simprocAttr]
  refine hκ.draw (.q 0 (.q 1 (.q 2 (.q 4 (.q 5 (.q 6 (.l 3 [1, 5] (.l 7 [1, 5] (.l 8 [1, 5] (.q 9 (.fin))))))))))) [0, 1, 2, 4, 5, 6, 9] (by kernel_rfl) (by kernel_rfl) rfl ?_
  simp (disch := omega) only [push_cast, simprocAttr]
  refine DCall.of (Does.row hκ.hP hκ.hgl c1 ⟨trivial, by simp [SV.bnd, SV.bndL]⟩ fun cap1 hcap1 => ?_)
  rw [List.length_map] at hcap1
  simp (disch := omega) only [push_cast, simprocAttr]
  refine DCall.of (Does.row hκ.hP hκ.hgl c2 ⟨trivial, by simp [SV.bnd, SV.bndL]⟩ fun cap2 hcap2 => ?_)
  rw [List.length_map] at hcap2
  simp (disch := omega) only [push_cast, simprocAttr]
  have et1 : List.take p.length (List.map (eI .u8) p) = List.map (eI .u8) p := List.take_of_length_le (by simp)
  have et2 : List.take q.length (List.map (eI .u8) q) = List.map (eI .u8) q := List.take_of_length_le (by simp)
  rw [et1, et2, List.length_map]
  refine ⟨⟨⟨by omega, by omega, fun h => by omega⟩, by omega, by omega, by omega⟩, fun _ => ?_⟩
  intro i
  refine hκ.run 300 ?_
  simp (disch := omega) only [push_cast, simprocAttr]
  refine hκ.ret _ _ _ _ _ _ trivial rfl ?_
  exact Post.row (by rw [List.map_append]; rfl) (by simp)
theorem list43_ok (l : List Int) (hl : fitL l = true) : Con Try.prog gl0 (fnv 43) [Is l] 0 [] (RetRow 5 1 (((l.length : Int) :: l).map (eI .u8))) := by
  rw [fitL, Bool.and_eq_true, decide_eq_true_eq, List.all_eq_true] at hl
  obtain ⟨h1, h2⟩ := hl
  have h2 : ∀ x ∈ l, 0 ≤ x ∧ x < 256 := fun x hx => of_decide_eq_true (h2 x hx)
  have w8 : IntKind.u8.wrap (l.length : Int) = l.length := by rw [wrap_u8_mod]; omega
  refine Con.of Try.ok43 (nt := 23) (res := [.tmp 2]) Try.mixed Try.func43 rfl rfl rfl rfl fun κ xc hκ => hκ.run 300 ?_
  simp (disch := omega) only [push_cast, simprocAttr, w8]
  refine Sat.less (Sat.loop (γ := Nat × Nat) (fun g => ([(12, I g.1), (11, I l.length), (10, Is l), (3, .sl 0 1 0 (((l.length : Int) :: l.take g.1)).length g.2)], [(0, .row 1 g.2 5 (((l.length : Int) :: l.take g.1).map (eI .u8)))], 1)) (fun g => l.length - g.1)
    (fun g => g.1 ≤ l.length ∧ ((l.length : Int) :: l.take g.1).length ≤ g.2) ?round (0, 1) ⟨Nat.zero_le _, by simp⟩) (by repeat' (first | exact EnvSub.nil _ | exact HeapSub.nil _ | refine EnvSub.cons rfl ?_ | refine HeapSub.cons rfl ?_ | (refine EnvSub.cons (by simp [Env.get]; done) ?_) | (refine HeapSub.cons (by simp [Heap.get]; done) ?_))) (by repeat' (first | exact EnvSub.nil _ | exact HeapSub.nil _ | refine EnvSub.cons rfl ?_ | refine HeapSub.cons rfl ?_ | (refine EnvSub.cons (by simp [Env.get]; done) ?_) | (refine HeapSub.cons (by simp [Heap.get]; done) ?_)))
  case round =>
    rintro ⟨k, cp⟩ ⟨hk, hcp⟩ ih
    dsimp only at hk hcp ih ⊢
    by_cases hkl : k < l.length
    · have q1 : ((k : Int) < l.length) = True := by first | (simp only [eq_iff_iff, iff_true]; first | assumption | omega) | (simp; omega)
      have gk : (List.map (eI .i64) l).getD k [] = eI .i64 (l.getD k default) := getD_map _ _ _ hkl
      have hm : l.getD k default ∈ l := by
        rw [List.getD, List.getElem?_eq_getElem hkl]; exact List.getElem_mem _
      have htk : l.take (k + 1) = l.take k ++ [l.getD k default] := by
        rw [List.take_succ_eq_append_getElem hkl, List.getD, List.getElem?_eq_getElem hkl]; rfl
      have hb := h2 _ hm
      have hz := fun c h => ih (k + 1, c) ⟨by dsimp only; omega, h⟩ (by dsimp only; omega)
      dsimp only at hz
      rw [htk, ← List.cons_append] at hz
      have hpl : ((l.length : Int) :: l.take k).length ≤ 33 := by rw [List.length_cons, List.length_take]; omega
      clear ih hm htk
      generalize (l.length : Int) :: l.take k = pre at *
      generalize l.getD k default = x at *
      have wx : IntKind.u8.wrap x = x := by rw [wrap_u8_mod]; omega
      have et : List.take pre.length (List.map (eI .u8) pre) = List.map (eI .u8) pre := List.take_of_length_le (by simp)
      refine hκ.run 300 ?_
      simp (disch := omega) only [push_cast, simprocAttr, q1, gk, wx]
      (repeat (refine ⟨by first | omega | (refine ⟨?_, ?_⟩ <;> omega) | trivial | (simp; done) | decide +kernel, fun _ => ?_⟩))
      intro i
      rw [et]
      have hy := hz (pre.length + 1 + i) (by simp)
      simp only [List.length_append, List.length_cons, List.length_nil, List.length_singleton, List.length_map, List.length_set, List.length_replicate, Nat.zero_add, Nat.add_zero, Int.natCast_add, Int.natCast_one, Int.ofNat_eq_natCast, List.map_append, List.map_cons, List.map_nil, List.take_length, eI, eB] at hy ⊢
      refine Sat.via (fun i => if i = 0 then 2 else i) (hy) (by intro i j; (repeat (first | omega | split))) (by repeat' (first | exact EnvVia.nil | refine EnvVia.cons (by first | trivial | decide | (simp [SV.bnd, SV.bndL]; done)) rfl ?_)) (by repeat' (first | exact HeapVia.nil | refine HeapVia.cons (by decide) (by first | trivial | exact Blk.bnd_own0 (by assumption) | (simp [Blk.bnd, SV.bnd, SV.bndL]; done) | exact bndL_mapV _ _ _ | exact LR.bnd (by rw [l2]; simp [bndE, SV.bnd, SV.bndL]) (by rw [l6]; decide)) (by first | (rw [Blk.ren_own0 (by assumption)]; rfl) | rfl | (simp only [Blk.ren, renL_mapV]; rfl) | (rw [LR.ren (by rw [l2] <;> rfl) (by rw [l6] <;> rfl)]; rfl)) ?_)) ⟨by have := hκ.hm; (try dsimp only at this); (first | done | omega), fun i hi => by have := hκ.hm; (try dsimp only at this); (first | omega | (dsimp only; omega) | (rw [if_neg (by omega)]))⟩ ⟨by simp, rfl⟩
    · obtain rfl : k = l.length := by omega
      have q1 : ((l.length : Int) < l.length) = False := by first | (simp only [eq_iff_iff, iff_false]; first | assumption | omega) | (simp; omega)
      simp only [List.take_length] at *
      refine hκ.run 300 ?_
      simp (disch := omega) only [push_cast, simprocAttr, q1]
      refine hκ.ret _ _ _ _ _ _ trivial rfl ?_
      exact Post.row rfl (by simp)
end Go.Proofs.Ytmieikflcolbaaa

/- The document's words: numbers, lists, masks, from bytes. No condition. -/
import Derived.Test.YtmieikflcolbaaaWa
import Derived.Test.YtmieikflcolbaaaVh
namespace Go.Proofs.Ytmieikflcolbaaa
open Go Go.Sy
set_option maxRecDepth 100000
set_option linter.unusedSimpArgs false
set_option linter.unusedVariables false
set_option maxHeartbeats 4000000
abbrev Tk (r : List Int) (e : Int) : Blk := .own [By r, I e] 72
theorem Tk.good {r : List Int} {e : Int} : (Tk r e).still ∧ (Tk r e).bnd 1 := ⟨Blk.still_own (by simp [SV.bnd, SV.bndL]), by simp [Blk.bnd, SV.bnd, SV.bndL]⟩
def tN (r : List Int) (e : Int) (w : Nat) : Int := if e = 0 ∧ w ≤ r.length then num (r.take w) else 0
def tR (r : List Int) (e : Int) (w : Nat) : List Int := if e = 0 ∧ w ≤ r.length then r.drop w else r
def tE (r : List Int) (e : Int) (w : Nat) : Int := if e = 0 ∧ r.length < w then 7 else e
theorem number48_ok (r : List Int) (e : Int) (w : Nat) (hr : isY r) (hn : r.length < 2 ^ 46) (hw : w ≤ 8) : Con Try.prog gl0 (fnv 48) [.ptr 0 0 0 0, I w] 1 [(0, Tk r e)] (RetK (.v (.int .u64 (tN r e w))) (Tk (tR r e w) (tE r e w))) := by
  by_cases he : e = 0
  · subst he
    by_cases hl : w ≤ r.length
    · have h1 : tN r 0 w = num (r.take w) := if_pos ⟨rfl, hl⟩
      have h2 : tR r 0 w = r.drop w := if_pos ⟨rfl, hl⟩
      have h3 : tE r 0 w = 0 := if_neg fun h => by omega
      rw [h1, h2, h3]
      have q1 : ((r.length : Int) < w) = False := by first | (simp only [eq_iff_iff, iff_false]; first | assumption | omega) | (simp; omega)
      have em : List.take w (List.map (eI .u8) r) = (r.take w).map (eI .u8) := List.map_take.symm
      have ed : List.drop w (List.map (eI .u8) r) = (r.drop w).map (eI .u8) := List.map_drop.symm
      have hsl : (r.take w).length = w := by simp; omega
      have hsb : isY (r.take w) := fun b hb => hr b (List.mem_of_mem_take hb)
      refine Con.of Try.ok48 (nt := 57) (res := [.tmp 4]) Try.mixed Try.func48 rfl rfl rfl rfl fun κ xc hκ => hκ.run 300 ?_
      simp (disch := omega) only [push_cast, simprocAttr, q1, em, ed]
      (repeat (refine ⟨by first | omega | (refine ⟨?_, ?_⟩ <;> omega) | trivial | (simp; done) | decide +kernel, fun _ => ?_⟩))
      generalize r.take w = seg at *
      refine Sat.less (Sat.loop (γ := Nat) (fun k => ([(37, I k), (36, I seg.length), (35, By seg), (5, .v (.int .u64 (num (seg.take k)))), (0, .ptr 0 0 0 0), (1, I w)], [(0, Tk r 0)], 1)) (fun k => seg.length - k) (fun k => k ≤ seg.length) ?round 0 (Nat.zero_le _)) (by repeat' (first | exact EnvSub.nil _ | exact HeapSub.nil _ | refine EnvSub.cons rfl ?_ | refine HeapSub.cons rfl ?_ | (refine EnvSub.cons (by simp [Env.get]; done) ?_) | (refine HeapSub.cons (by simp [Heap.get]; done) ?_))) (by repeat' (first | exact EnvSub.nil _ | exact HeapSub.nil _ | refine EnvSub.cons rfl ?_ | refine HeapSub.cons rfl ?_ | (refine EnvSub.cons (by simp [Env.get]; done) ?_) | (refine HeapSub.cons (by simp [Heap.get]; done) ?_)))
      case round =>
        intro k hk ih
        dsimp only at hk ih ⊢
        by_cases hkl : k < seg.length
        · have q2 : ((k : Int) < seg.length) = True := by first | (simp only [eq_iff_iff, iff_true]; first | assumption | omega) | (simp; omega)
          have gk : (List.map (eI .u8) seg).getD k [] = eI .u8 (seg.getD k default) := getD_map _ _ _ hkl
          have hb : seg.getD k default ∈ seg := by
            rw [List.getD, List.getElem?_eq_getElem hkl]; exact List.getElem_mem _
          have hs : seg.take (k + 1) = seg.take k ++ [seg.getD k default] := by
            rw [List.take_succ_eq_append_getElem hkl, List.getD, List.getElem?_eq_getElem hkl]; rfl
          obtain ⟨b0, b1⟩ := hsb _ hb
          have hz := ih (k + 1) (by omega) (by omega)
          rw [hs, num_snoc] at hz
          generalize seg.getD k default = c at *
          have wz : IntKind.u64.wrap (IntKind.u64.wrap (num (seg.take k) * 256) + c) = (num (seg.take k) * 256 + c) % 18446744073709551616 := by
            rw [wrap_u64_mod, wrap_u64_mod]; omega
          have wc : IntKind.u64.wrap c = c := by rw [wrap_u64_mod]; omega
          refine hκ.run 300 ?_
          simp (disch := omega) only [push_cast, simprocAttr, q2, gk, wc]
          (repeat (refine ⟨by first | omega | (refine ⟨?_, ?_⟩ <;> omega) | trivial | (simp; done) | decide +kernel, fun _ => ?_⟩))
          first | rw [wz] | trace_state
          simp only [List.length_append, List.length_cons, List.length_nil, List.length_singleton, List.length_map, List.length_set, List.length_replicate, Nat.zero_add, Nat.add_zero, Int.natCast_add, Int.natCast_one, Int.ofNat_eq_natCast, List.map_append, List.map_cons, List.map_nil, List.take_length, eI, eB] at hz ⊢
          exact hz.less (by repeat' (first | exact EnvSub.nil _ | exact HeapSub.nil _ | refine EnvSub.cons rfl ?_ | refine HeapSub.cons rfl ?_ | (refine EnvSub.cons (by simp [Env.get]; done) ?_) | (refine HeapSub.cons (by simp [Heap.get]; done) ?_))) (by repeat' (first | exact EnvSub.nil _ | exact HeapSub.nil _ | refine EnvSub.cons rfl ?_ | refine HeapSub.cons rfl ?_ | (refine EnvSub.cons (by simp [Env.get]; done) ?_) | (refine HeapSub.cons (by simp [Heap.get]; done) ?_)))
        · obtain rfl : k = seg.length := by omega
          rw [List.take_length]
          have q2 : ((seg.length : Int) < seg.length) = False := by first | (simp only [eq_iff_iff, iff_false]; first | assumption | omega) | (simp; omega)
          refine hκ.run 300 ?_
          simp (disch := omega) only [push_cast, simprocAttr, q2, ed]
          (repeat (refine ⟨by first | omega | (refine ⟨?_, ?_⟩ <;> omega) | trivial | (simp; done) | decide +kernel, fun _ => ?_⟩))
          refine hκ.ret _ _ _ _ _ _ trivial rfl ?_
          exact Post.keep trivial Tk.good.1 Tk.good.2 rfl
    · have h1 : tN r 0 w = 0 := if_neg fun h => hl h.2
      have h2 : tR r 0 w = r := if_neg fun h => hl h.2
      have h3 : tE r 0 w = 7 := if_pos ⟨rfl, by omega⟩
      rw [h1, h2, h3]
      have q1 : ((r.length : Int) < w) = True := by first | (simp only [eq_iff_iff, iff_true]; first | assumption | omega) | (simp; omega)
      refine Con.of Try.ok48 (nt := 57) (res := [.tmp 4]) Try.mixed Try.func48 rfl rfl rfl rfl fun κ xc hκ => hκ.run 300 ?_
      simp (disch := omega) only [push_cast, simprocAttr, q1]
      refine hκ.ret _ _ _ _ _ _ trivial rfl ?_
      exact Post.keep trivial Tk.good.1 Tk.good.2 rfl
  · have h1 : tN r e w = 0 := if_neg fun h => he h.1
    have h2 : tR r e w = r := if_neg fun h => he h.1
    have h3 : tE r e w = e := if_neg fun h => he h.1
    rw [h1, h2, h3]
    refine Con.of Try.ok48 (nt := 57) (res := [.tmp 4]) Try.mixed Try.func48 rfl rfl rfl rfl fun κ xc hκ => hκ.run 300 ?_
    simp (disch := omega) only [push_cast, simprocAttr, he]
    refine hκ.ret _ _ _ _ _ _ trivial rfl ?_
    exact Post.keep trivial Tk.good.1 Tk.good.2 rfl
theorem tN_bd {r : List Int} {e : Int} (w : Nat) (hr : isY r) : 0 ≤ tN r e w ∧ tN r e w < 256 ^ w := by
  have h := numR_bd r 0 e w hr
  have e1 : numR r 0 e w = tN r e w := by simp only [numR, tN, Nat.zero_add, List.drop_zero]
  rw [e1] at h
  exact h
theorem tR_Y {r : List Int} {e : Int} {w : Nat} (hr : isY r) : isY (tR r e w) := by
  unfold tR; split
  · exact fun b hb => hr b (List.mem_of_mem_drop hb)
  · exact hr
theorem tR_len {r : List Int} {e : Int} {w : Nat} : (tR r e w).length ≤ r.length := by
  unfold tR; split
  · rw [List.length_drop]; omega
  · exact Nat.le_refl _
theorem mask55_ok (r : List Int) (hr : isY r) (hn : r.length < 2 ^ 46) : Con Try.prog gl0 (fnv 55) [.ptr 0 0 0 0] 1 [(0, Tk r 0)]
    (RetK (.agg [U (tN r 0 4), U (tN (tR r 0 4) (tE r 0 4) 4)]) (Tk (tR (tR r 0 4) (tE r 0 4) 4) (tE (tR r 0 4) (tE r 0 4) 4))) := by
  have c1 := number48_ok r 0 4 hr hn (by decide)
  have c2 := number48_ok (tR r 0 4) (tE r 0 4) 4 (tR_Y hr) (Nat.lt_of_le_of_lt tR_len hn) (by decide)
  have b1 := tN_bd (e := 0) 4 hr
  have b2 := tN_bd (e := tE r 0 4) 4 (tR_Y (e := 0) (w := 4) hr)
  simp only [Int.reducePow] at b1 b2
  generalize tR (tR r 0 4) (tE r 0 4) 4 = r2 at *
  generalize tE (tR r 0 4) (tE r 0 4) 4 = e2 at *
  generalize tN (tR r 0 4) (tE r 0 4) 4 = n2 at *
  generalize tR r 0 4 = r1 at *
  generalize tE r 0 4 = e1 at *
  generalize tN r 0 4 = n1 at *
  refine Con.of Try.ok55 (nt := 12) (res := [.cell 2 31]) Try.mixed Try.func55 rfl rfl rfl rfl fun κ xc hκ => hκ.run 300 ?_
  simp (disch := omega) only [push_cast, simprocAttr]
  refine Does.keep hκ.hP hκ.hgl 0 [.ptr 0 0 0 0, I 4] c1 rfl ⟨trivial, by first | (simp [SV.bnd, SV.bndL]; done) | (simp [SV.bnd, SV.bndL, ec_bnd]; done), by first | (simp [SV.bnd, SV.bndL]; done) | (simp [SV.bnd, SV.bndL, ec_bnd]; done) | assumption⟩ ⟨Tk.good.1, Tk.good.2, Tk.good.1⟩ rfl (by first | omega | (dsimp only; omega)) ?_
  refine hκ.run 300 ?_
  simp (disch := omega) only [push_cast, simprocAttr]
  refine Does.keep hκ.hP hκ.hgl 0 [.ptr 0 0 0 0, I 4] c2 rfl ⟨trivial, by first | (simp [SV.bnd, SV.bndL]; done) | (simp [SV.bnd, SV.bndL, ec_bnd]; done), by first | (simp [SV.bnd, SV.bndL]; done) | (simp [SV.bnd, SV.bndL, ec_bnd]; done) | assumption⟩ ⟨Tk.good.1, Tk.good.2, Tk.good.1⟩ rfl (by first | omega | (dsimp only; omega)) ?_
  refine hκ.run 300 ?_
  simp (disch := omega) only [push_cast, simprocAttr]
  refine hκ.ret _ _ _ _ _ _ trivial rfl ?_
  exact Post.keep (by simp [SV.bnd, SV.bndL]) Tk.good.1 Tk.good.2 rfl
def tL : Nat → List Int → Int → List Int × List Int × Int
  | 0, r, e => ([], r, e)
  | n + 1, r, e => if e = 0 then (tN r e 1 :: (tL n (tR r e 1) (tE r e 1)).1, (tL n (tR r e 1) (tE r e 1)).2) else ([], r, e)
def tLs (r : List Int) : List Int × List Int × Int := tL (tN r 0 1).toNat (tR r 0 1) (if 32 < tN r 0 1 then 361 else tE r 0 1)
theorem list56_ok (r : List Int) (hr : isY r) (hn : r.length < 2 ^ 46) : Con Try.prog gl0 (fnv 56) [.ptr 0 0 0 0] 1 [(0, Tk r 0)] (RetK (Is (tLs r).1) (Tk (tLs r).2.1 (tLs r).2.2)) := by
  have c1 := number48_ok r 0 1 hr hn (by decide)
  have b1 := tN_bd (e := 0) 1 hr
  have y1 := tR_Y (e := 0) (w := 1) hr
  have l1 : (tR r 0 1).length < 2 ^ 46 := Nat.lt_of_le_of_lt tR_len hn
  rw [tLs]
  simp only [Int.pow_one] at b1
  obtain ⟨n, hN⟩ : ∃ n : Nat, tN r 0 1 = n := ⟨(tN r 0 1).toNat, by omega⟩
  rw [hN] at c1 b1 ⊢
  simp only [Int.toNat_natCast]
  generalize tR r 0 1 = r1 at *
  generalize tE r 0 1 = e1 at *
  clear hN
  refine Con.of Try.ok56 (nt := 32) (res := [.tmp 2]) Try.mixed Try.func56 rfl rfl rfl rfl fun κ xc hκ => hκ.run 300 ?_
  simp (disch := omega) only [push_cast, simprocAttr]
  refine Does.keep hκ.hP hκ.hgl 0 [.ptr 0 0 0 0, I 1] c1 rfl ⟨trivial, by first | (simp [SV.bnd, SV.bndL]; done) | (simp [SV.bnd, SV.bndL, ec_bnd]; done), by first | (simp [SV.bnd, SV.bndL]; done) | (simp [SV.bnd, SV.bndL, ec_bnd]; done) | assumption⟩ ⟨Tk.good.1, Tk.good.2, Tk.good.1⟩ rfl (by first | omega | (dsimp only; omega)) ?_
  refine Sat.nilRow 3 1 3 rfl ?_
  apply Sat.join (α := Unit) (nx := 2) (dfs := []) (fun _ => True) (fun _ => ([(5, .v (.int .u64 0)), (4, .v (.int .u64 n)), (3, .sl 1 1 0 0 0), (0, .ptr 0 0 0 0)], [(0, Tk r1 (if 32 < (n : Int) then 361 else e1)), (1, .row 1 0 3 [])]))
  · intro hj
    have hj := hj () trivial
    dsimp only at hj
    by_cases h : 32 < (n : Int)
    · rw [if_pos h] at hj
      have q1 : (32 < (n : Int)) = True := by first | (simp only [eq_iff_iff, iff_true]; first | assumption | omega) | (simp; omega)
      refine hκ.run 300 ?_
      simp (disch := omega) only [push_cast, simprocAttr, q1]
      exact hj.less (by repeat' (first | exact EnvSub.nil _ | exact HeapSub.nil _ | refine EnvSub.cons rfl ?_ | refine HeapSub.cons rfl ?_ | (refine EnvSub.cons (by simp [Env.get]; done) ?_) | (refine HeapSub.cons (by simp [Heap.get]; done) ?_))) (by repeat' (first | exact EnvSub.nil _ | exact HeapSub.nil _ | refine EnvSub.cons rfl ?_ | refine HeapSub.cons rfl ?_ | (refine EnvSub.cons (by simp [Env.get]; done) ?_) | (refine HeapSub.cons (by simp [Heap.get]; done) ?_)))
    · rw [if_neg h] at hj
      have q1 : (32 < (n : Int)) = False := by first | (simp only [eq_iff_iff, iff_false]; first | assumption | omega) | (simp; omega)
      refine hκ.run 300 ?_
      simp (disch := omega) only [push_cast, simprocAttr, q1]
      exact hj.less (by repeat' (first | exact EnvSub.nil _ | exact HeapSub.nil _ | refine EnvSub.cons rfl ?_ | refine HeapSub.cons rfl ?_ | (refine EnvSub.cons (by simp [Env.get]; done) ?_) | (refine HeapSub.cons (by simp [Heap.get]; done) ?_))) (by repeat' (first | exact EnvSub.nil _ | exact HeapSub.nil _ | refine EnvSub.cons rfl ?_ | refine HeapSub.cons rfl ?_ | (refine EnvSub.cons (by simp [Env.get]; done) ?_) | (refine HeapSub.cons (by simp [Heap.get]; done) ?_)))
  intro _ _
  dsimp only
  generalize (if 32 < (n : Int) then (361 : Int) else e1) = e2 at *
  refine Sat.less (Sat.loop (γ := Nat × List Int × Nat × List Int × Int) (fun g => ([(5, .v (.int .u64 g.1)), (4, .v (.int .u64 n)), (3, .sl 1 1 0 g.2.1.length g.2.2.1), (0, .ptr 0 0 0 0)], [(0, Tk g.2.2.2.1 g.2.2.2.2), (1, .row 1 g.2.2.1 3 (g.2.1.map (eI .i64)))], 2)) (fun g => n - g.1)
    (fun g => g.1 ≤ n ∧ g.2.1.length ≤ g.2.2.1 ∧ g.2.1.length ≤ g.1 ∧ isY g.2.2.2.1 ∧ g.2.2.2.1.length < 2 ^ 46 ∧ (g.2.1 ++ (tL (n - g.1) g.2.2.2.1 g.2.2.2.2).1, (tL (n - g.1) g.2.2.2.1 g.2.2.2.2).2) = tL n r1 e2) ?round (0, [], 0, r1, e2) ⟨Nat.zero_le _, Nat.le_refl _, Nat.le_refl _, y1, l1, rfl⟩) (by repeat' (first | exact EnvSub.nil _ | exact HeapSub.nil _ | refine EnvSub.cons rfl ?_ | refine HeapSub.cons rfl ?_ | (refine EnvSub.cons (by simp [Env.get]; done) ?_) | (refine HeapSub.cons (by simp [Heap.get]; done) ?_))) (by repeat' (first | exact EnvSub.nil _ | exact HeapSub.nil _ | refine EnvSub.cons rfl ?_ | refine HeapSub.cons rfl ?_ | (refine EnvSub.cons (by simp [Env.get]; done) ?_) | (refine HeapSub.cons (by simp [Heap.get]; done) ?_)))
  case round =>
    rintro ⟨k, pre, cp, r', e'⟩ ⟨hk, hcp, hpk, hy, hn', hl⟩ ih
    dsimp only at hk hcp hpk hy hn' hl ih ⊢
    have et : List.take pre.length (List.map (eI .i64) pre) = List.map (eI .i64) pre := List.take_of_length_le (by simp)
    by_cases hkn : k < n
    · obtain ⟨d, hd⟩ : ∃ d, n - k = d + 1 := ⟨n - k - 1, by omega⟩
      have hd2 : n - (k + 1) = d := by omega
      rw [hd, tL] at hl
      have q1 : ((k : Int) < n) = True := by first | (simp only [eq_iff_iff, iff_true]; first | assumption | omega) | (simp; omega)
      by_cases he : e' = 0
      · subst he
        rw [if_pos rfl] at hl
        have c2 := number48_ok r' 0 1 hy hn' (by decide)
        have b2 := tN_bd (e := 0) 1 hy
        simp only [Int.pow_one] at b2
        have hz := fun c h => ih (k + 1, pre ++ [tN r' 0 1], c, tR r' 0 1, tE r' 0 1) ⟨by dsimp only; omega, h, by simp; omega, tR_Y hy, Nat.lt_of_le_of_lt tR_len hn', by
          dsimp only
          rw [hd2, ← hl, List.append_assoc]; rfl⟩ (by dsimp only; omega)
        dsimp only at hz
        clear ih hl
        generalize tR r' 0 1 = r2 at *
        generalize tE r' 0 1 = e2' at *
        generalize tN r' 0 1 = x at *
        have wx : IntKind.i64.wrap x = x := wrap_i64 (by omega) (by omega)
        have wk : IntKind.u64.wrap ((k : Int) + 1) = k + 1 := by rw [wrap_u64_mod]; omega
        refine hκ.run 300 ?_
        simp (disch := omega) only [push_cast, simprocAttr, q1, wx, wk]
        refine Does.keep hκ.hP hκ.hgl 0 [.ptr 0 0 0 0, I 1] c2 rfl ⟨trivial, by first | (simp [SV.bnd, SV.bndL]; done) | (simp [SV.bnd, SV.bndL, ec_bnd]; done), by first | (simp [SV.bnd, SV.bndL]; done) | (simp [SV.bnd, SV.bndL, ec_bnd]; done) | assumption⟩ ⟨Tk.good.1, Tk.good.2, Tk.good.1⟩ rfl (by first | omega | (dsimp only; omega)) ?_
        refine hκ.run 300 ?_
        simp (disch := omega) only [push_cast, simprocAttr, q1, wx, wk]
        (repeat (refine ⟨by first | omega | (refine ⟨?_, ?_⟩ <;> omega) | trivial | (simp; done) | decide +kernel, fun _ => ?_⟩))
        intro i
        rw [et]
        have hy := hz (pre.length + 1 + i) (by simp)
        simp only [List.length_append, List.length_cons, List.length_nil, List.length_singleton, List.length_map, List.length_set, List.length_replicate, Nat.zero_add, Nat.add_zero, Int.natCast_add, Int.natCast_one, Int.ofNat_eq_natCast, List.map_append, List.map_cons, List.map_nil, List.take_length, eI, eB] at hy ⊢
        refine Sat.via (fun i => if i = 1 then 3 else i) (hy) (by intro i j; (repeat (first | omega | split))) (by repeat' (first | exact EnvVia.nil | refine EnvVia.cons (by first | trivial | decide | (simp [SV.bnd, SV.bndL]; done)) rfl ?_)) (by repeat' (first | exact HeapVia.nil | refine HeapVia.cons (by decide) (by first | trivial | exact Blk.bnd_own0 (by assumption) | (simp [Blk.bnd, SV.bnd, SV.bndL]; done) | exact bndL_mapV _ _ _ | exact LR.bnd (by rw [l2]; simp [bndE, SV.bnd, SV.bndL]) (by rw [l6]; decide)) (by first | (rw [Blk.ren_own0 (by assumption)]; rfl) | rfl | (simp only [Blk.ren, renL_mapV]; rfl) | (rw [LR.ren (by rw [l2] <;> rfl) (by rw [l6] <;> rfl)]; rfl)) ?_)) ⟨by have := hκ.hm; (try dsimp only at this); (first | done | omega), fun i hi => by have := hκ.hm; (try dsimp only at this); (first | omega | (dsimp only; omega) | (rw [if_neg (by omega)]))⟩ ⟨by simp, rfl⟩
      · rw [if_neg he, List.append_nil] at hl
        rw [← hl] at hκ
        refine hκ.run 300 ?_
        simp (disch := omega) only [push_cast, simprocAttr, q1, he]
        refine hκ.ret _ _ _ _ _ _ trivial rfl ?_
        refine Post.frz [1] (by first | (simp [lendPL, lendP, lendSlP, dropL, Heap.get, Heap.drop, resV]; done) | (simp [lendPL, lendP, lendSlP, dropL, Heap.get, Heap.drop, resV]; omega) | (simp [lendPL, lendP, lendSlP, dropL, Heap.get, Heap.drop, resV, -List.length_eq_zero_iff]; omega)) ?_
        simp only [resV, lendL, lendS, lendSl, dropL, Heap.drop, Heap.get, List.mem_singleton, List.mem_cons, List.not_mem_nil, or_false, or_true, true_or, List.drop_zero, Nat.reduceEqDiff, Nat.one_ne_zero, Nat.zero_ne_one, ↓reduceIte, et]
        exact Post.keep (by simp [SV.bnd, SV.bndL]) Tk.good.1 Tk.good.2 rfl
    · have hd : n - k = 0 := by omega
      rw [hd, tL, List.append_nil] at hl
      rw [← hl] at hκ
      have q1 : ((k : Int) < n) = False := by first | (simp only [eq_iff_iff, iff_false]; first | assumption | omega) | (simp; omega)
      refine hκ.run 300 ?_
      simp (disch := omega) only [push_cast, simprocAttr, q1]
      refine hκ.ret _ _ _ _ _ _ trivial rfl ?_
      refine Post.frz [1] (by first | (simp [lendPL, lendP, lendSlP, dropL, Heap.get, Heap.drop, resV]; done) | (simp [lendPL, lendP, lendSlP, dropL, Heap.get, Heap.drop, resV]; omega) | (simp [lendPL, lendP, lendSlP, dropL, Heap.get, Heap.drop, resV, -List.length_eq_zero_iff]; omega)) ?_
      simp only [resV, lendL, lendS, lendSl, dropL, Heap.drop, Heap.get, List.mem_singleton, List.mem_cons, List.not_mem_nil, or_false, or_true, true_or, List.drop_zero, Nat.reduceEqDiff, Nat.one_ne_zero, Nat.zero_ne_one, ↓reduceIte, et]
      exact Post.keep (by simp [SV.bnd, SV.bndL]) Tk.good.1 Tk.good.2 rfl
end Go.Proofs.Ytmieikflcolbaaa

/- The document's Idle. No condition. -/
import Derived.Test.YtnjgmjcokcfmkaaDoorRa
import Derived.Test.YtnjgmjcokcfmkaaDoorQk
namespace Go.Proofs.YtnjgmjcokcfmkaaDoor
open Go Go.Sy
set_option maxRecDepth 100000
set_option linter.unusedSimpArgs false
set_option linter.unusedVariables false
set_option maxHeartbeats 8000000

/-- Does a waiting single want it? -/
def wants (w : List Wi) (free : Nat) (P : List (Int × Int)) (c : Int) (x : En) : Bool := decide (x.ms.length ≤ 1) && ((onP P (x.ms.getD 0 default)).isNone && hasB (alw (wshO w (x.ms.getD 0 default)).m free) c)
def idles (w : List Wi) (free : Nat) (P : List (Int × Int)) (l : List En) (c : Int) : Bool := (atP2 P c).isNone && l.any (wants w free P c)
theorem want_bitE (w : List Wi) (free : Nat) (P : List (Int × Int)) {c : Nat} (hc : c < 8) : ∀ (l : List En) (s : Nat), (∀ x ∈ l, okW w x) → (l.foldl (want1 w free P) s).testBit c = (s.testBit c || l.any (wants w free P c))
  | [], s, _ => by simp
  | x :: l, s, h => by
    rw [List.foldl_cons, want_bitE w free P hc l _ (fun y hy => h y (by simp [hy])), List.any_cons, ← Bool.or_assoc]
    congr 1
    obtain ⟨h1, -, h3⟩ := h x (by simp)
    rw [want1, wants, h3 0 (by omega)]
    by_cases hl : x.ms.length = 1
    · rw [decide_eq_true (show x.ms.length ≤ 1 by omega), Bool.true_and]
      cases hv : onP P (x.ms.getD 0 default) with
      | some v => rw [if_neg (by simp)]; simp
      | none => rw [if_pos ⟨hl, rfl⟩, Nat.testBit_or, hasB_nat hc]; simp
    · rw [if_neg (fun e => hl e.1), decide_eq_false (show ¬ x.ms.length ≤ 1 by omega)]
      simp
theorem cut_bitE {c : Nat} (hc : c < 8) : ∀ (P : List (Int × Int)) (s : Nat), (cutP s P).testBit c = (s.testBit c && (atP2 P c).isNone)
  | [], s => by simp [cutP, atP2]
  | p :: P, s => by
    rw [cutP, List.foldl_cons, ← cutP, cut_bitE hc P]
    have e : atP2 (p :: P) c = if p.2 = c then some p.1 else atP2 P c := by
      rw [atP2, List.find?_cons]
      by_cases h : p.2 = c
      · rw [if_pos h, decide_eq_true h]; rfl
      · rw [if_neg h, decide_eq_false h]; rfl
    rw [e, cut1]
    by_cases h : p.2 = c
    · rw [if_pos h, if_pos (by omega)]
      have : (dif s (2 ^ p.2.toNat)).testBit c = false := by
        rw [show p.2.toNat = c by omega, dif_bit]; simp [Nat.testBit_two_pow]
      rw [this]; simp
    · rw [if_neg h]
      split
      · rw [dif_bit, Nat.testBit_two_pow]
        have : ¬ p.2.toNat = c := by omega
        simp [this]
      · rfl
theorem idle_eq (w : List Wi) (free : Nat) (P : List (Int × Int)) (l : List En) (h : ∀ x ∈ l, okW w x) : bits (cutP (wantN w free P l) P) = (rng 8).filter (idles w free P l) := by
  rw [bits_rng]
  apply List.filter_congr
  intro c hc
  obtain ⟨h0, h8⟩ := rng_mem.1 hc
  obtain ⟨n, rfl⟩ : ∃ n : Nat, c = n := ⟨c.toNat, by omega⟩
  have hn : n < 8 := by omega
  rw [hasB_nat hn, cut_bitE hn, wantN, want_bitE w free P hn l 0 h, idles, Nat.zero_testBit, Bool.false_or, Bool.and_comm]
theorem rngf_succ (q : Int → Bool) (n : Nat) : (rng (n + 1)).filter q = if q n = true then (rng n).filter q ++ [(n : Int)] else (rng n).filter q := by
  rw [rng_succ, List.filter_append, List.filter_cons, List.filter_nil]
  split
  · rfl
  · rw [List.append_nil]
theorem rngf_len (q : Int → Bool) (n : Nat) : ((rng n).filter q).length ≤ n := by
  refine Nat.le_trans (List.length_filter_le _ _) ?_
  simp [rng]
theorem any_snoc {α : Type} (q : α → Bool) (l : List α) (x : α) : (l ++ [x]).any q = (l.any q || q x) := by simp
theorem rIdle_ok (l : List En) (w : List Wi) (free : Nat) (P : List (Int × Int)) (hl : ∀ x ∈ l, inE x) (hx : ∀ x ∈ l, okW w x) (hm : ∀ y ∈ w, okM y.m = true) (hn : l.length < 2 ^ 40) (hn2 : w.length < 2 ^ 40) (hn3 : P.length < 2 ^ 46) (hf : free < 256) : Con Tryd.prog gl0 (fnv 40) [Ens l, Ws w, S free, Ps P] 0 [] (RetRow 3 1 (((rng 8).filter (idles w free P l)).map (eI .i64))) := by
  refine Con.of Tryd.ok40 (nt := 73) (res := [.tmp 8]) Tryd.mixed Tryd.func40 rfl rfl rfl rfl fun κ xc hκ => hκ.run 300 ?_
  simp (disch := omega) only [push_cast, simprocAttr]
  refine Sat.nilRow 9 1 3 rfl ?_
  refine Sat.less (Sat.loop (γ := Nat × Nat) (fun g => ([(10, I g.1), (9, .sl 0 1 0 ((rng g.1).filter (idles w free P l)).length g.2), (0, Ens l), (1, Ws w), (2, S free), (3, Ps P)], [(0, .row 1 g.2 3 (((rng g.1).filter (idles w free P l)).map (eI .i64)))], 1)) (fun g => 8 - g.1)
    (fun g => g.1 ≤ 8 ∧ ((rng g.1).filter (idles w free P l)).length ≤ g.2) ?round (0, 0) ⟨by omega, by simp [rng]⟩) (by simp only [rng, List.range_zero, List.map_nil, List.filter_nil]; exact (by repeat' (first | exact EnvSub.nil _ | exact HeapSub.nil _ | refine EnvSub.cons rfl ?_ | refine HeapSub.cons rfl ?_ | (refine EnvSub.cons (by simp [Env.get]; done) ?_) | (refine HeapSub.cons (by simp [Heap.get]; done) ?_)))) (by simp only [rng, List.range_zero, List.map_nil, List.filter_nil]; exact (by repeat' (first | exact EnvSub.nil _ | exact HeapSub.nil _ | refine EnvSub.cons rfl ?_ | refine HeapSub.cons rfl ?_ | (refine EnvSub.cons (by simp [Env.get]; done) ?_) | (refine HeapSub.cons (by simp [Heap.get]; done) ?_))))
  case round =>
    rintro ⟨n, cp⟩ ⟨hk, hcp⟩ ih
    dsimp only at hk hcp ih ⊢
    have et : List.take ((rng n).filter (idles w free P l)).length (List.map (eI .i64) ((rng n).filter (idles w free P l))) = List.map (eI .i64) ((rng n).filter (idles w free P l)) := List.take_of_length_le (by simp)
    by_cases hn8 : n < 8
    · have q1 : ((n : Int) < 8) = True := by first | (simp only [eq_iff_iff, iff_true]; first | assumption | omega) | (simp; omega)
      have hz := fun cp h => ih (n + 1, cp) ⟨by omega, h⟩ (by dsimp only; omega)
      dsimp only at hz
      have hlen := rngf_len (idles w free P l) n
      rw [rngf_succ] at hz
      clear ih
      have hid : idles w free P l n = ((atP2 P n).isNone && l.any (wants w free P n)) := rfl
      have ca := rAt_ok P n hn3
      generalize (rng n).filter (idles w free P l) = o at *
      generalize idles w free P l n = b at *
      cases hv : atP2 P n with
      | some v =>
        rw [hv] at ca hid
        dsimp only [Option.getD_some, Option.isSome_some, Option.isNone_some] at ca hid
        rw [Bool.false_and] at hid
        subst hid
        simp only [Bool.false_eq_true, if_false] at hz
        have hy := hz cp hcp
        refine hκ.run 300 ?_
        simp (disch := omega) only [push_cast, simprocAttr, q1]
        refine Does.ret hκ.hP hκ.hgl ca ⟨trivial, by first | (simp [SV.bnd, SV.bndL]; done) | (simp [SV.bnd, SV.bndL, ec_bnd]; done), by first | (simp [SV.bnd, SV.bndL]; done) | (simp [SV.bnd, SV.bndL, ec_bnd]; done) | assumption⟩ ?_
        refine hκ.run 300 ?_
        simp (disch := omega) only [push_cast, simprocAttr, q1]
        exact hy.less (by repeat' (first | exact EnvSub.nil _ | exact HeapSub.nil _ | refine EnvSub.cons rfl ?_ | refine HeapSub.cons rfl ?_ | (refine EnvSub.cons (by simp [Env.get]; done) ?_) | (refine HeapSub.cons (by simp [Heap.get]; done) ?_))) (by repeat' (first | exact EnvSub.nil _ | exact HeapSub.nil _ | refine EnvSub.cons rfl ?_ | refine HeapSub.cons rfl ?_ | (refine EnvSub.cons (by simp [Env.get]; done) ?_) | (refine HeapSub.cons (by simp [Heap.get]; done) ?_)))
      | none =>
        rw [hv] at ca hid
        dsimp only [Option.getD_none, Option.isSome_none, Option.isNone_none] at ca hid
        rw [Bool.true_and] at hid
        refine hκ.run 300 ?_
        simp (disch := omega) only [push_cast, simprocAttr, q1]
        refine Does.ret hκ.hP hκ.hgl ca ⟨trivial, by first | (simp [SV.bnd, SV.bndL]; done) | (simp [SV.bnd, SV.bndL, ec_bnd]; done), by first | (simp [SV.bnd, SV.bndL]; done) | (simp [SV.bnd, SV.bndL, ec_bnd]; done) | assumption⟩ ?_
        refine hκ.run 300 ?_
        simp (disch := omega) only [push_cast, simprocAttr, q1]
        refine Sat.less (Sat.loop (γ := Nat) (fun k => ([(14, I k), (13, Bo ((l.take k).any (wants w free P n))), (10, I n), (9, .sl 0 1 0 o.length cp), (0, Ens l), (1, Ws w), (2, S free), (3, Ps P)], [(0, .row 1 cp 3 (o.map (eI .i64)))], 1)) (fun k => l.length - k) (fun k => k ≤ l.length) ?inner 0 (Nat.zero_le _)) (by repeat' (first | exact EnvSub.nil _ | exact HeapSub.nil _ | refine EnvSub.cons rfl ?_ | refine HeapSub.cons rfl ?_ | (refine EnvSub.cons (by simp [Env.get]; done) ?_) | (refine HeapSub.cons (by simp [Heap.get]; done) ?_))) (by repeat' (first | exact EnvSub.nil _ | exact HeapSub.nil _ | refine EnvSub.cons rfl ?_ | refine HeapSub.cons rfl ?_ | (refine EnvSub.cons (by simp [Env.get]; done) ?_) | (refine HeapSub.cons (by simp [Heap.get]; done) ?_)))
        case inner =>
          intro k hk ih2
          dsimp only at hk ih2 ⊢
          by_cases hkl : k < l.length
          · have q2 : ((k : Int) < l.length) = True := by first | (simp only [eq_iff_iff, iff_true]; first | assumption | omega) | (simp; omega)
            have e0 : (0 ≤ (k : Int)) = True := by first | (simp only [eq_iff_iff, iff_true]; first | assumption | omega) | (simp; omega)
            have gk : (List.map eEn l).getD k [] = eEn (l.getD k default) := getD_map _ _ _ hkl
            have hs : l.take (k + 1) = l.take k ++ [l.getD k default] := by
              rw [List.take_succ_eq_append_getElem hkl, List.getD, List.getElem?_eq_getElem hkl]; rfl
            have hy := ih2 (k + 1) (by omega) (by omega)
            rw [hs, any_snoc, wants] at hy
            obtain ⟨m1, m2, m3⟩ := hx _ (getD_mem' hkl)
            have hxm := hl _ (getD_mem' hkl)
            clear ih2 hz
            generalize l.getD k default = x at *
            generalize (l.take k).any (wants w free P n) = b2 at *
            have cm : cut (eEn x) 0 1 = some [Is x.ms] := rfl
            have t1 : takeN (eEn x) 1 = some [Is x.ms] := rfl
            by_cases h1 : x.ms.length ≤ 1
            · rw [decide_eq_true h1, Bool.true_and] at hy
              have q3 : ((1 : Int) < x.ms.length) = False := by first | (simp only [eq_iff_iff, iff_false]; first | assumption | omega) | (simp; omega)
              have q4 : (0 < (x.ms.length : Int)) = True := by first | (simp only [eq_iff_iff, iff_true]; first | assumption | omega) | (simp; omega)
              have g0 : (List.map (eI .i64) x.ms).getD 0 [] = eI .i64 (x.ms.getD 0 default) := getD_map _ _ _ (by omega)
              have hwm : wshO w (x.ms.getD 0 default) ∈ w := by
                rw [m3 0 (by omega)]
                exact (List.mem_filter.1 (getD_mem' (show 0 < (wsh w x.ms).length by omega))).1
              have cw := rWish_ok w (x.ms.getD 0 default) hn2
              have co := rOn_ok P (x.ms.getD 0 default) hn3
              have cl := rallows_ok (wshO w (x.ms.getD 0 default)).m free (hm _ hwm) hf
              have chh := rhas_ok (alw (wshO w (x.ms.getD 0 default)).m free) n
              have ha := alw_lt (wshO w (x.ms.getD 0 default)).m free
              generalize wshO w (x.ms.getD 0 default) = y at *
              generalize x.ms.getD 0 default = v at *
              cases hv2 : onP P v with
              | some c =>
                rw [hv2] at co hy
                dsimp only [Option.getD_some, Option.isSome_some, Option.isNone_some] at co hy
                rw [Bool.false_and, Bool.or_false] at hy
                refine hκ.run 300 ?_
                simp (disch := omega) only [push_cast, simprocAttr, q1, q2, gk, e0, cm, t1, q3, q4, g0]
                refine Does.ret hκ.hP hκ.hgl co ⟨trivial, by first | (simp [SV.bnd, SV.bndL]; done) | (simp [SV.bnd, SV.bndL, ec_bnd]; done), by first | (simp [SV.bnd, SV.bndL]; done) | (simp [SV.bnd, SV.bndL, ec_bnd]; done) | assumption⟩ ?_
                refine hκ.run 300 ?_
                simp (disch := omega) only [push_cast, simprocAttr, q1, q2, gk, e0, cm, t1, q3, q4, g0]
                exact hy.less (by repeat' (first | exact EnvSub.nil _ | exact HeapSub.nil _ | refine EnvSub.cons rfl ?_ | refine HeapSub.cons rfl ?_ | (refine EnvSub.cons (by simp [Env.get]; done) ?_) | (refine HeapSub.cons (by simp [Heap.get]; done) ?_))) (by repeat' (first | exact EnvSub.nil _ | exact HeapSub.nil _ | refine EnvSub.cons rfl ?_ | refine HeapSub.cons rfl ?_ | (refine EnvSub.cons (by simp [Env.get]; done) ?_) | (refine HeapSub.cons (by simp [Heap.get]; done) ?_)))
              | none =>
                rw [hv2] at co hy
                dsimp only [Option.getD_none, Option.isSome_none, Option.isNone_none] at co hy
                rw [Bool.true_and] at hy
                refine hκ.run 300 ?_
                simp (disch := omega) only [push_cast, simprocAttr, q1, q2, gk, e0, cm, t1, q3, q4, g0]
                refine Does.ret hκ.hP hκ.hgl co ⟨trivial, by first | (simp [SV.bnd, SV.bndL]; done) | (simp [SV.bnd, SV.bndL, ec_bnd]; done), by first | (simp [SV.bnd, SV.bndL]; done) | (simp [SV.bnd, SV.bndL, ec_bnd]; done) | assumption⟩ ?_
                refine hκ.run 300 ?_
                simp (disch := omega) only [push_cast, simprocAttr, q1, q2, gk, e0, cm, t1, q3, q4, g0]
                refine Does.ret hκ.hP hκ.hgl cw ⟨trivial, by simp [SV.bnd, SV.bndL], by simp [SV.bnd, SV.bndL, eW]⟩ ?_
                refine hκ.run 300 ?_
                simp (disch := omega) only [push_cast, simprocAttr, q1, q2, gk, e0, cm, t1, q3, q4, g0, eW]
                refine Does.ret hκ.hP hκ.hgl cl ⟨trivial, by first | (simp [SV.bnd, SV.bndL]; done) | (simp [SV.bnd, SV.bndL, ec_bnd]; done), by first | (simp [SV.bnd, SV.bndL]; done) | (simp [SV.bnd, SV.bndL, ec_bnd]; done) | assumption⟩ ?_
                refine hκ.run 300 ?_
                simp (disch := omega) only [push_cast, simprocAttr, q1, q2, gk, e0, cm, t1, q3, q4, g0, eW]
                refine Does.ret hκ.hP hκ.hgl chh ⟨trivial, by first | (simp [SV.bnd, SV.bndL]; done) | (simp [SV.bnd, SV.bndL, ec_bnd]; done), by first | (simp [SV.bnd, SV.bndL]; done) | (simp [SV.bnd, SV.bndL, ec_bnd]; done) | assumption⟩ ?_
                cases hb : hasB (alw y.m free) n
                · rw [hb, Bool.or_false] at hy
                  refine hκ.run 300 ?_
                  simp (disch := omega) only [push_cast, simprocAttr, q1, q2, gk, e0, cm, t1, q3, q4, g0, eW]
                  exact hy.less (by repeat' (first | exact EnvSub.nil _ | exact HeapSub.nil _ | refine EnvSub.cons rfl ?_ | refine HeapSub.cons rfl ?_ | (refine EnvSub.cons (by simp [Env.get]; done) ?_) | (refine HeapSub.cons (by simp [Heap.get]; done) ?_))) (by repeat' (first | exact EnvSub.nil _ | exact HeapSub.nil _ | refine EnvSub.cons rfl ?_ | refine HeapSub.cons rfl ?_ | (refine EnvSub.cons (by simp [Env.get]; done) ?_) | (refine HeapSub.cons (by simp [Heap.get]; done) ?_)))
                · rw [hb, Bool.or_true] at hy
                  refine hκ.run 300 ?_
                  simp (disch := omega) only [push_cast, simprocAttr, q1, q2, gk, e0, cm, t1, q3, q4, g0, eW]
                  exact hy.less (by repeat' (first | exact EnvSub.nil _ | exact HeapSub.nil _ | refine EnvSub.cons rfl ?_ | refine HeapSub.cons rfl ?_ | (refine EnvSub.cons (by simp [Env.get]; done) ?_) | (refine HeapSub.cons (by simp [Heap.get]; done) ?_))) (by repeat' (first | exact EnvSub.nil _ | exact HeapSub.nil _ | refine EnvSub.cons rfl ?_ | refine HeapSub.cons rfl ?_ | (refine EnvSub.cons (by simp [Env.get]; done) ?_) | (refine HeapSub.cons (by simp [Heap.get]; done) ?_)))
            · rw [decide_eq_false h1, Bool.false_and, Bool.or_false] at hy
              have q3 : ((1 : Int) < x.ms.length) = True := by first | (simp only [eq_iff_iff, iff_true]; first | assumption | omega) | (simp; omega)
              refine hκ.run 300 ?_
              simp (disch := omega) only [push_cast, simprocAttr, q1, q2, gk, e0, cm, t1, q3]
              exact hy.less (by repeat' (first | exact EnvSub.nil _ | exact HeapSub.nil _ | refine EnvSub.cons rfl ?_ | refine HeapSub.cons rfl ?_ | (refine EnvSub.cons (by simp [Env.get]; done) ?_) | (refine HeapSub.cons (by simp [Heap.get]; done) ?_))) (by repeat' (first | exact EnvSub.nil _ | exact HeapSub.nil _ | refine EnvSub.cons rfl ?_ | refine HeapSub.cons rfl ?_ | (refine EnvSub.cons (by simp [Env.get]; done) ?_) | (refine HeapSub.cons (by simp [Heap.get]; done) ?_)))
          · obtain rfl : k = l.length := by omega
            rw [List.take_length, ← hid]
            have q2 : ((l.length : Int) < l.length) = False := by first | (simp only [eq_iff_iff, iff_false]; first | assumption | omega) | (simp; omega)
            cases b
            · simp only [Bool.false_eq_true, if_false] at hz
              have hy := hz cp hcp
              refine hκ.run 300 ?_
              simp (disch := omega) only [push_cast, simprocAttr, q1, q2]
              exact hy.less (by repeat' (first | exact EnvSub.nil _ | exact HeapSub.nil _ | refine EnvSub.cons rfl ?_ | refine HeapSub.cons rfl ?_ | (refine EnvSub.cons (by simp [Env.get]; done) ?_) | (refine HeapSub.cons (by simp [Heap.get]; done) ?_))) (by repeat' (first | exact EnvSub.nil _ | exact HeapSub.nil _ | refine EnvSub.cons rfl ?_ | refine HeapSub.cons rfl ?_ | (refine EnvSub.cons (by simp [Env.get]; done) ?_) | (refine HeapSub.cons (by simp [Heap.get]; done) ?_)))
            · simp only [if_true] at hz
              refine hκ.run 300 ?_
              simp (disch := omega) only [push_cast, simprocAttr, q1, q2, et]
              refine ⟨⟨Nat.le_refl _, by omega, by omega⟩, fun _ => ?_⟩
              intro i
              have hy := hz (o.length + 1 + i) (by simp)
              simp only [List.length_append, List.length_cons, List.length_nil, List.length_singleton, List.length_map, List.length_set, List.length_replicate, Nat.zero_add, Nat.add_zero, Int.natCast_add, Int.natCast_one, Int.ofNat_eq_natCast, List.map_append, List.map_cons, List.map_nil, List.take_length, eI, eB] at hy ⊢
              refine Sat.via (fun i => if i = 0 then 2 else i) (hy) (by intro i j; (repeat (first | omega | split))) (by repeat' (first | exact EnvVia.nil | refine EnvVia.cons (by first | trivial | decide | (simp [SV.bnd, SV.bndL]; done)) rfl ?_)) (by repeat' (first | exact HeapVia.nil | refine HeapVia.cons (by decide) (by first | trivial | exact Blk.bnd_own0 (by assumption) | (simp [Blk.bnd, SV.bnd, SV.bndL]; done) | exact bndL_mapV _ _ _ | exact LR.bnd (by rw [l2]; simp [bndE, SV.bnd, SV.bndL]) (by rw [l6]; decide)) (by first | (rw [Blk.ren_own0 (by assumption)]; rfl) | rfl | (simp only [Blk.ren, renL_mapV]; rfl) | (rw [LR.ren (by rw [l2] <;> rfl) (by rw [l6] <;> rfl)]; rfl)) ?_)) ⟨by have := hκ.hm; (try dsimp only at this); (first | done | omega), fun i hi => by have := hκ.hm; (try dsimp only at this); (first | omega | (dsimp only; omega) | (rw [if_neg (by omega)]))⟩ ⟨by simp, rfl⟩
    · obtain rfl : n = 8 := by omega
      have q1 : ((8 : Int) < 8) = False := by first | (simp only [eq_iff_iff, iff_false]; first | assumption | omega) | (simp; omega)
      refine hκ.run 300 ?_
      simp (disch := omega) only [push_cast, simprocAttr, q1]
      refine hκ.ret _ _ _ _ _ _ trivial rfl ?_
      exact Post.row rfl (by simp)
end Go.Proofs.YtnjgmjcokcfmkaaDoor

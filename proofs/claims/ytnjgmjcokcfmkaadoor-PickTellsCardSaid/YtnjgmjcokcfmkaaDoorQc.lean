/- Several members' choices, their wishes, what they take. No condition. -/
import Derived.Test.YtnjgmjcokcfmkaaDoorQb
namespace Go.Proofs.YtnjgmjcokcfmkaaDoor
open Go Go.Sy
set_option maxRecDepth 100000
set_option linter.unusedSimpArgs false
set_option linter.unusedVariables false
set_option maxHeartbeats 4000000

theorem bits_nodup0 : ∀ s, s < 256 → (bits s).Nodup := by decide +kernel
theorem bits_nodup (s : Nat) : (bits s).Nodup := by rw [← bits_mod]; exact bits_nodup0 _ (Nat.mod_lt _ (by decide))
theorem hasB_dif {a b : Nat} {c : Int} : hasB (dif a b) c = (hasB a c && !hasB b c) := by
  simp only [hasB, dif_bit]
  cases decide (0 ≤ c ∧ c < 8) <;> simp
theorem hasB_pow {c d : Int} (hc : 0 ≤ c ∧ c < 8) : hasB (2 ^ c.toNat) d = decide (d = c) := by
  rw [hasB, testBit_pow]
  by_cases h : d = c
  · subst h; simp [hc]
  · rw [decide_eq_false h]
    by_cases h0 : 0 ≤ d ∧ d < 8
    · have : ¬ c.toNat = d.toNat := by omega
      simp [this]
    · simp [h0]
theorem chs_ok (w : Wi) (free : Nat) : okrow (chs w free) := by
  have two : ∀ a k : Nat, (bits k ++ bits (dif a k)).Nodup := fun a k => by
    rw [List.nodup_append]
    refine ⟨bits_nodup _, bits_nodup _, fun x hx y hy e => ?_⟩
    subst e
    have h1 := mem_bits.1 hx
    have h2 := mem_bits.1 hy
    rw [hasB_dif, h1] at h2
    simp at h2
  rw [chs]
  split
  · rename_i h
    have h8 := hasB_bd h
    refine ⟨fun c hc => ?_, ?_⟩
    · rcases List.mem_cons.1 hc with rfl | hc
      · exact h8
      rcases List.mem_append.1 hc with hc | hc
      · exact bits_bd hc
      · exact bits_bd hc
    · rw [List.nodup_cons]
      refine ⟨fun hm => ?_, two _ _⟩
      rcases List.mem_append.1 hm with hm | hm
      · have := mem_bits.1 hm
        rw [hasB_dif, hasB_pow h8] at this
        simp at this
      · have := mem_bits.1 hm
        rw [hasB_dif, hasB_dif, hasB_pow h8] at this
        simp at this
  · refine ⟨fun c hc => ?_, two _ _⟩
    rcases List.mem_append.1 hc with hc | hc
    · exact bits_bd hc
    · exact bits_bd hc
theorem chs_len (w : Wi) (free : Nat) : (chs w free).length ≤ 17 := by
  rw [chs]
  split
  · have h1 := bits_len (dif (lik w.m free) (2 ^ w.a.toNat))
    have h2 := bits_len (dif (dif (alw w.m free) (2 ^ w.a.toNat)) (dif (lik w.m free) (2 ^ w.a.toNat)))
    rw [List.length_cons, List.length_append]; omega
  · have h1 := bits_len (lik w.m free)
    have h2 := bits_len (dif (alw w.m free) (lik w.m free))
    rw [List.length_append]; omega
def chsL (w : List Wi) (free : Nat) : List (List Int) := w.map fun x => chs x free
theorem rows_ok (w : List Wi) (free : Nat) (hw : ∀ x ∈ w, inW x) (hn : w.length < 2 ^ 40) (hf : free < 4294967296) : Con Tryd.prog gl0 (fnv 86) [S free, Ws w] 0 [] (RetRow 31 1 ((chsL w free).map eRw)) := by
  refine Con.of Tryd.ok86 (nt := 22) (res := [.tmp 4]) Tryd.mixed Tryd.func86 rfl rfl rfl rfl fun κ xc hκ => hκ.runD 300 ?_
  simp (disch := omega) only [push_cast, simprocAttr]
  refine hκ.runA 2 300 ?_
  simp (disch := omega) only [push_cast, simprocAttr]
  refine Sat.nilRow 5 1 31 rfl ?_
  refine hκ.run 300 ?_
  simp (disch := omega) only [push_cast, simprocAttr]
  refine Sat.less (Sat.loop (γ := Nat × Nat) (fun g => ([(10, I g.1), (9, I w.length), (8, Ws w), (5, .sl 0 1 0 (chsL (w.take g.1) free).length g.2), (0, S free)], [(0, .row 1 g.2 31 ((chsL (w.take g.1) free).map eRw))], 1)) (fun g => w.length - g.1) (fun g => g.1 ≤ w.length ∧ (chsL (w.take g.1) free).length ≤ g.2) ?round (0, 0) ⟨Nat.zero_le _, Nat.le_refl _⟩) (by repeat' (first | exact EnvSub.nil _ | exact HeapSub.nil _ | refine EnvSub.cons rfl ?_ | refine HeapSub.cons rfl ?_ | (refine EnvSub.cons (by simp [Env.get]; done) ?_) | (refine HeapSub.cons (by simp [Heap.get]; done) ?_))) (by repeat' (first | exact EnvSub.nil _ | exact HeapSub.nil _ | refine EnvSub.cons rfl ?_ | refine HeapSub.cons rfl ?_ | (refine EnvSub.cons (by simp [Env.get]; done) ?_) | (refine HeapSub.cons (by simp [Heap.get]; done) ?_)))
  case round =>
    rintro ⟨k, cp⟩ ⟨hk, hcp⟩ ih
    dsimp only at hk hcp ih ⊢
    by_cases hkl : k < w.length
    · have q1 : ((k : Int) < w.length) = True := by first | (simp only [eq_iff_iff, iff_true]; first | assumption | omega) | (simp; omega)
      have gk : (List.map eW w).getD k [] = eW (w.getD k default) := getD_map _ _ _ hkl
      have ht : w.take (k + 1) = w.take k ++ [w.getD k default] := by
        rw [List.take_succ_eq_append_getElem hkl, List.getD, List.getElem?_eq_getElem hkl]; rfl
      have hx := hw _ (getD_mem' hkl)
      have hz := fun cp h => ih (k + 1, cp) ⟨by omega, h⟩ (by dsimp only; omega)
      dsimp only at hz
      rw [ht, show chsL (w.take k ++ [w.getD k default]) free = chsL (w.take k) free ++ [chs (w.getD k default) free] by simp [chsL]] at hz
      have hpl : (chsL (w.take k) free).length ≤ k := by simp [chsL]; omega
      clear ih ht
      generalize w.getD k default = x at *
      generalize chsL (w.take k) free = pre at *
      have c1 := (Choices_ok x free hx hf).toRd
      generalize chs x free = c at *
      have et : List.take pre.length (List.map eRw pre) = List.map eRw pre := List.take_of_length_le (by simp)
      rw [eW] at gk c1
      refine hκ.run 300 ?_
      simp (disch := omega) only [push_cast, simprocAttr, q1, gk, et]
      (repeat (refine ⟨by first | omega | (refine ⟨?_, ?_⟩ <;> omega) | trivial | (simp; done) | decide +kernel, fun _ => ?_⟩))
      refine Does.ret hκ.hP hκ.hgl c1 ⟨trivial, by first | (simp [SV.bnd, SV.bndL]; done) | (simp [SV.bnd, SV.bndL, ec_bnd]; done), by first | (simp [SV.bnd, SV.bndL]; done) | (simp [SV.bnd, SV.bndL, ec_bnd]; done) | assumption⟩ ?_
      refine hκ.run 300 ?_
      simp (disch := omega) only [push_cast, simprocAttr, q1, gk, et]
      refine ⟨⟨by omega, by omega, by omega⟩, fun _ => ?_⟩
      intro i
      have hy := hz (pre.length + 1 + i) (by simp)
      simp only [List.length_append, List.length_cons, List.length_nil, List.length_singleton, List.length_map, List.length_set, List.length_replicate, Nat.zero_add, Nat.add_zero, Int.natCast_add, Int.natCast_one, Int.ofNat_eq_natCast, List.map_append, List.map_cons, List.map_nil, List.take_length, eI, eB] at hy ⊢
      refine Sat.via (fun i => if i = 0 then 3 else i) (hy) (by intro i j; (repeat (first | omega | split))) (by repeat' (first | exact EnvVia.nil | refine EnvVia.cons (by first | trivial | decide | (simp [SV.bnd, SV.bndL]; done)) rfl ?_)) (by repeat' (first | exact HeapVia.nil | refine HeapVia.cons (by decide) (by first | trivial | exact Blk.bnd_own0 (by assumption) | (simp [Blk.bnd, SV.bnd, SV.bndL]; done) | exact bndL_mapV _ _ _ | exact LR.bnd (by rw [l2]; simp [bndE, SV.bnd, SV.bndL]) (by rw [l6]; decide)) (by first | (rw [Blk.ren_own0 (by assumption)]; rfl) | rfl | (simp only [Blk.ren, renL_mapV]; rfl) | (rw [LR.ren (by rw [l2] <;> rfl) (by rw [l6] <;> rfl)]; rfl)) ?_)) ⟨by have := hκ.hm; (try dsimp only at this); (first | done | omega), fun i hi => by have := hκ.hm; (try dsimp only at this); (first | omega | (dsimp only; omega) | (rw [if_neg (by omega)]))⟩ ⟨by simp, rfl⟩
    · obtain rfl : k = w.length := by omega
      rw [List.take_length]
      have q1 : ((w.length : Int) < w.length) = False := by first | (simp only [eq_iff_iff, iff_false]; first | assumption | omega) | (simp; omega)
      refine hκ.run 300 ?_
      simp (disch := omega) only [push_cast, simprocAttr, q1]
      refine hκ.ret _ _ _ _ _ _ trivial rfl ?_
      exact Post.row rfl (by simp)
def wsh (w : List Wi) (ms : List Int) : List Wi := w.filter fun x => decide (x.v ∈ ms)
theorem wishes_ok (w : List Wi) (ms : List Int) (hw : ∀ x ∈ w, inW x) (hn : w.length < 2 ^ 40) (hm : ms.length < 2 ^ 40) : Con Tryd.prog gl0 (fnv 60) [Ws w, Is ms] 0 [] (RetRow 45 4 ((wsh w ms).map eW)) := by
  refine Con.of Tryd.ok60 (nt := 24) (res := [.tmp 4]) Tryd.mixed Tryd.func60 rfl rfl rfl rfl fun κ xc hκ => hκ.runD 300 ?_
  simp (disch := omega) only [push_cast, simprocAttr]
  refine hκ.runA 2 300 ?_
  simp (disch := omega) only [push_cast, simprocAttr]
  refine Sat.nilRow 5 4 45 rfl ?_
  refine hκ.run 300 ?_
  simp (disch := omega) only [push_cast, simprocAttr]
  refine Sat.less (Sat.loop (γ := Nat × Nat) (fun g => ([(10, I g.1), (9, I w.length), (8, Ws w), (5, .sl 0 4 0 (wsh (w.take g.1) ms).length g.2), (1, Is ms)], [(0, .row 4 g.2 45 ((wsh (w.take g.1) ms).map eW))], 1)) (fun g => w.length - g.1) (fun g => g.1 ≤ w.length ∧ (wsh (w.take g.1) ms).length ≤ g.2) ?round (0, 0) ⟨Nat.zero_le _, Nat.le_refl _⟩) (by repeat' (first | exact EnvSub.nil _ | exact HeapSub.nil _ | refine EnvSub.cons rfl ?_ | refine HeapSub.cons rfl ?_ | (refine EnvSub.cons (by simp [Env.get]; done) ?_) | (refine HeapSub.cons (by simp [Heap.get]; done) ?_))) (by repeat' (first | exact EnvSub.nil _ | exact HeapSub.nil _ | refine EnvSub.cons rfl ?_ | refine HeapSub.cons rfl ?_ | (refine EnvSub.cons (by simp [Env.get]; done) ?_) | (refine HeapSub.cons (by simp [Heap.get]; done) ?_)))
  case round =>
    rintro ⟨k, cp⟩ ⟨hk, hcp⟩ ih
    dsimp only at hk hcp ih ⊢
    by_cases hkl : k < w.length
    · have q1 : ((k : Int) < w.length) = True := by first | (simp only [eq_iff_iff, iff_true]; first | assumption | omega) | (simp; omega)
      have gk : (List.map eW w).getD k [] = eW (w.getD k default) := getD_map _ _ _ hkl
      have ht : w.take (k + 1) = w.take k ++ [w.getD k default] := by
        rw [List.take_succ_eq_append_getElem hkl, List.getD, List.getElem?_eq_getElem hkl]; rfl
      have hz := fun cp h => ih (k + 1, cp) ⟨by omega, h⟩ (by dsimp only; omega)
      dsimp only at hz
      have hpl : (wsh (w.take k) ms).length ≤ k := by
        have := List.length_filter_le (fun x : Wi => decide (x.v ∈ ms)) (w.take k)
        rw [List.length_take] at this
        rw [wsh]; omega
      have hsn : ∀ l : List Wi, ∀ x, wsh (l ++ [x]) ms = if x.v ∈ ms then wsh l ms ++ [x] else wsh l ms := fun l x => by
        rw [wsh, List.filter_append, List.filter_cons, List.filter_nil]
        by_cases h : x.v ∈ ms
        · simp [h, wsh]
        · simp [h, wsh]
      rw [ht, hsn] at hz
      clear ih ht hsn
      generalize w.getD k default = x at *
      generalize wsh (w.take k) ms = pre at *
      have c1 := contains_okI ms x.v (by omega)
      have et : List.take pre.length (List.map eW pre) = List.map eW pre := List.take_of_length_le (by simp)
      rw [eW] at gk
      by_cases hx : x.v ∈ ms
      · rw [if_pos hx] at hz
        rw [decide_eq_true hx] at c1
        refine hκ.run 300 ?_
        simp (disch := omega) only [push_cast, simprocAttr, q1, gk, et]
        (repeat (refine ⟨by first | omega | (refine ⟨?_, ?_⟩ <;> omega) | trivial | (simp; done) | decide +kernel, fun _ => ?_⟩))
        refine Does.ret hκ.hP hκ.hgl c1 ⟨trivial, by first | (simp [SV.bnd, SV.bndL]; done) | (simp [SV.bnd, SV.bndL, ec_bnd]; done), by first | (simp [SV.bnd, SV.bndL]; done) | (simp [SV.bnd, SV.bndL, ec_bnd]; done) | assumption⟩ ?_
        refine hκ.run 300 ?_
        simp (disch := omega) only [push_cast, simprocAttr, q1, gk, et]
        refine ⟨⟨Nat.le_refl _, by omega, by omega⟩, fun _ => ?_⟩
        intro i
        have hy := hz (pre.length + 1 + i) (by simp)
        simp only [List.length_append, List.length_cons, List.length_nil, List.length_singleton, List.length_map, List.length_set, List.length_replicate, Nat.zero_add, Nat.add_zero, Int.natCast_add, Int.natCast_one, Int.ofNat_eq_natCast, List.map_append, List.map_cons, List.map_nil, List.take_length, eI, eB] at hy ⊢
        rw [eW] at hy
        refine Sat.via (fun i => if i = 0 then 3 else i) (hy) (by intro i j; (repeat (first | omega | split))) (by repeat' (first | exact EnvVia.nil | refine EnvVia.cons (by first | trivial | decide | (simp [SV.bnd, SV.bndL]; done)) rfl ?_)) (by repeat' (first | exact HeapVia.nil | refine HeapVia.cons (by decide) (by first | trivial | exact Blk.bnd_own0 (by assumption) | (simp [Blk.bnd, SV.bnd, SV.bndL]; done) | exact bndL_mapV _ _ _ | exact LR.bnd (by rw [l2]; simp [bndE, SV.bnd, SV.bndL]) (by rw [l6]; decide)) (by first | (rw [Blk.ren_own0 (by assumption)]; rfl) | rfl | (simp only [Blk.ren, renL_mapV]; rfl) | (rw [LR.ren (by rw [l2] <;> rfl) (by rw [l6] <;> rfl)]; rfl)) ?_)) ⟨by have := hκ.hm; (try dsimp only at this); (first | done | omega), fun i hi => by have := hκ.hm; (try dsimp only at this); (first | omega | (dsimp only; omega) | (rw [if_neg (by omega)]))⟩ ⟨by simp, rfl⟩
      · rw [if_neg hx] at hz
        rw [decide_eq_false hx] at c1
        have hy := hz cp hcp
        refine hκ.run 300 ?_
        simp (disch := omega) only [push_cast, simprocAttr, q1, gk, et]
        (repeat (refine ⟨by first | omega | (refine ⟨?_, ?_⟩ <;> omega) | trivial | (simp; done) | decide +kernel, fun _ => ?_⟩))
        refine Does.ret hκ.hP hκ.hgl c1 ⟨trivial, by first | (simp [SV.bnd, SV.bndL]; done) | (simp [SV.bnd, SV.bndL, ec_bnd]; done), by first | (simp [SV.bnd, SV.bndL]; done) | (simp [SV.bnd, SV.bndL, ec_bnd]; done) | assumption⟩ ?_
        refine hκ.run 300 ?_
        simp (disch := omega) only [push_cast, simprocAttr, q1, gk, et]
        simp only [List.length_append, List.length_cons, List.length_nil, List.length_singleton, List.length_map, List.length_set, List.length_replicate, Nat.zero_add, Nat.add_zero, Int.natCast_add, Int.natCast_one, Int.ofNat_eq_natCast, List.map_append, List.map_cons, List.map_nil, List.take_length, eI, eB] at hy ⊢
        refine Sat.via (fun i => i) (hy) (by intro i j; (repeat (first | omega | split))) (by repeat' (first | exact EnvVia.nil | refine EnvVia.cons (by first | trivial | decide | (simp [SV.bnd, SV.bndL]; done)) rfl ?_)) (by repeat' (first | exact HeapVia.nil | refine HeapVia.cons (by decide) (by first | trivial | exact Blk.bnd_own0 (by assumption) | (simp [Blk.bnd, SV.bnd, SV.bndL]; done) | exact bndL_mapV _ _ _ | exact LR.bnd (by rw [l2]; simp [bndE, SV.bnd, SV.bndL]) (by rw [l6]; decide)) (by first | (rw [Blk.ren_own0 (by assumption)]; rfl) | rfl | (simp only [Blk.ren, renL_mapV]; rfl) | (rw [LR.ren (by rw [l2] <;> rfl) (by rw [l6] <;> rfl)]; rfl)) ?_)) ⟨by have := hκ.hm; (try dsimp only at this); (first | done | omega), fun i hi => by have := hκ.hm; (try dsimp only at this); (first | omega | (dsimp only; omega) | (rw [if_neg (by omega)]))⟩ ⟨by simp, rfl⟩
    · obtain rfl : k = w.length := by omega
      rw [List.take_length]
      have q1 : ((w.length : Int) < w.length) = False := by first | (simp only [eq_iff_iff, iff_false]; first | assumption | omega) | (simp; omega)
      refine hκ.run 300 ?_
      simp (disch := omega) only [push_cast, simprocAttr, q1]
      refine hκ.ret _ _ _ _ _ _ trivial rfl ?_
      exact Post.row rfl (by simp)
end Go.Proofs.YtnjgmjcokcfmkaaDoor

/- An event to bytes. No condition. -/
import Derived.Test.YtmieikflcolbaaaEe
import Derived.Test.YtmieikflcolbaaaCa
namespace Go.Proofs.Ytmieikflcolbaaa
open Go Go.Sy
set_option maxRecDepth 100000
set_option linter.unusedSimpArgs false
set_option linter.unusedVariables false
set_option maxHeartbeats 4000000
def eEv (a : Evt) (s : Out) : Out :=
  if a.1 0 = 1 then (match callL (a.1 1) with
    | some l => eLs a (e1 1 (a.1 1) (e1 1 (a.1 0) s)) l
    | none => ((e1 1 (a.1 1) (e1 1 (a.1 0) s)).1, true))
  else if a.1 0 = 2 then (match liveL (a.1 15) with
    | some l => eLs a (e1 1 (a.1 15) (e1 1 (a.1 0) s)) l
    | none => ((e1 1 (a.1 15) (e1 1 (a.1 0) s)).1, true))
  else if a.1 0 = 3 then e1 8 (a.1 28) (e1 1 (a.1 0) s)
  else ((e1 1 (a.1 0) s).1, true)
theorem change0E (a : Evt) (hn : a.1 15 < 1 ∨ 10 < a.1 15) (s : Out) (cap : Nat) (hcap : s.1.length ≤ cap) :
    Con Try.prog gl0 (fnv 51) [.ptr 0 0 0 0, .ptr 1 0 0 15] 3 [(0, CaE 2 cap s), (1, .own (ec a) 37), (2, RowB cap s)] (RetE s (ec a) 37 3 (Bo false)) := by
  have cec : cut (ec a) 15 1 = some [I (a.1 15)] := rfl
  have q1 : (a.1 15 = 1) = False := by first | (simp only [eq_iff_iff, iff_false]; first | assumption | omega) | (simp; omega)
  have q2 : (a.1 15 = 2) = False := by first | (simp only [eq_iff_iff, iff_false]; first | assumption | omega) | (simp; omega)
  have q3 : (a.1 15 = 3) = False := by first | (simp only [eq_iff_iff, iff_false]; first | assumption | omega) | (simp; omega)
  have q4 : (a.1 15 = 4) = False := by first | (simp only [eq_iff_iff, iff_false]; first | assumption | omega) | (simp; omega)
  have q5 : (a.1 15 = 5) = False := by first | (simp only [eq_iff_iff, iff_false]; first | assumption | omega) | (simp; omega)
  have q6 : (a.1 15 = 6) = False := by first | (simp only [eq_iff_iff, iff_false]; first | assumption | omega) | (simp; omega)
  have q7 : (a.1 15 = 7) = False := by first | (simp only [eq_iff_iff, iff_false]; first | assumption | omega) | (simp; omega)
  have q8 : (a.1 15 = 8) = False := by first | (simp only [eq_iff_iff, iff_false]; first | assumption | omega) | (simp; omega)
  have q9 : (a.1 15 = 9) = False := by first | (simp only [eq_iff_iff, iff_false]; first | assumption | omega) | (simp; omega)
  have q10 : (a.1 15 = 10) = False := by first | (simp only [eq_iff_iff, iff_false]; first | assumption | omega) | (simp; omega)
  refine Con.of Try.ok51 (nt := 117) (res := [.tmp 4]) Try.mixed Try.func51 rfl rfl rfl rfl fun κ xc hκ => hκ.run 300 ?_
  simp (disch := omega) only [push_cast, simprocAttr, cec, q1, q2, q3, q4, q5, q6, q7, q8, q9, q10]
  refine Sat.fresh 2 (by omega) (by repeat' (first | exact Once.nil | refine Once.cons (by simp) ?_)) ?_
  simp only [renE, renH, List.map_cons, List.map_nil, SV.ren, SV.renL, Blk.ren, ec_ren, Nat.reduceEqDiff, Nat.reduceAdd, ↓reduceIte]
  refine hκ.ret _ _ _ _ _ _ trivial rfl ?_
  exact Post.E (j := 3) (ec_bnd _ _) trivial (by decide) (by decide)  hcap (by first | rfl | (simp [dropL, Heap.get ]; done)) (by first | rfl | (simp [dropL, Heap.get, ec ]; done)) (by first | rfl | (simp [dropL, Heap.get ]; done))
theorem eventE (a : Evt) (h5 : a.1 5 = 0 ∨ a.1 5 = 1) (h6 : a.2.1.length < 2 ^ 40) (h27 : a.2.2.length < 2 ^ 40) (s : Out) (cap : Nat) (hs : s.1.length < 2 ^ 39) (hcap : s.1.length ≤ cap) :
    Con Try.prog gl0 (fnv 28) [.ptr 0 0 0 0, .ptr 1 0 0 0] 3 [(0, CaE 2 cap s), (1, .own (ec a) 37), (2, RowB cap s)] (RetE (eEv a s) (ec a) 37 3 vd) := by
  have cec : cut (ec a) 0 1 = some [I (a.1 0)] := rfl
  have cec1 : cut (ec a) 1 1 = some [I (a.1 1)] := rfl
  have hE : eEv a s = if a.1 0 = 1 then (match callL (a.1 1) with
    | some l => eLs a (e1 1 (a.1 1) (e1 1 (a.1 0) s)) l
    | none => ((e1 1 (a.1 1) (e1 1 (a.1 0) s)).1, true))
  else if a.1 0 = 2 then (match liveL (a.1 15) with
    | some l => eLs a (e1 1 (a.1 15) (e1 1 (a.1 0) s)) l
    | none => ((e1 1 (a.1 15) (e1 1 (a.1 0) s)).1, true))
  else if a.1 0 = 3 then e1 8 (a.1 28) (e1 1 (a.1 0) s)
  else ((e1 1 (a.1 0) s).1, true) := rfl
  refine Con.of Try.ok28 (nt := 87) (res := []) Try.mixed Try.func28 rfl rfl rfl rfl fun κ xc hκ => hκ.run 300 ?_
  simp (disch := omega) only [push_cast, simprocAttr, cec, cec1]
  refine (Does.E hκ.hP hκ.hgl _ (id) [0, 1, 2, 3] _ _ (small1E (ec a) _ 0 (ec_bnd _ _) (a.1 0) rfl s cap (by omega) hcap) (by rfl) ⟨trivial, by simp [SV.bnd, SV.bndL], by simp [SV.bnd, SV.bndL]⟩ (by first | assumption | exact ec_bnd _ _ | (simp [SV.bnd, SV.bndL]; done)) (by decide) (by intro i hi; (repeat (first | omega | (dsimp only [id]; omega) | split))) (by intro i j; (repeat (first | omega | (dsimp only [id]; omega) | split))) (by repeat' (first | exact HeapIn.nil | refine HeapIn.cons (by decide) (by first | exact Blk.bnd_own0 (by assumption) | exact ec_bnd _ _ | (simp [Blk.bnd, SV.bnd, SV.bndL]; done)) (by simp) (by first | rfl | (rw [Blk.ren_own0 (by assumption)]; rfl)) ?_)) ?_)
  intro cap1 hc1
  simp only [renH, Blk.ren, SV.renL, SV.ren, tau, without, List.mem_singleton, List.mem_cons, List.not_mem_nil, or_false, or_true, true_or, Nat.reduceEqDiff, Nat.reduceLT, Nat.zero_lt_one, Nat.one_ne_zero, Nat.zero_ne_one, Nat.zero_lt_succ, ↓reduceIte, List.cons_append, List.nil_append, List.append_nil, id]
  have hl1 : (e1 1 (a.1 0) s).1.length < 2 ^ 39 + 1 := by rw [e1_len]; omega
  by_cases k1 : a.1 0 = 1
  · rw [hE, if_pos k1] at hκ
    generalize e1 1 (a.1 0) s = s1 at *
    rw [k1] at cec
    refine hκ.run 300 ?_
    simp (disch := omega) only [push_cast, simprocAttr, cec, cec1]
    refine (Does.E hκ.hP hκ.hgl _ (fun i => if i = 2 then 4 else if i = 3 then 5 else i) [0, 1, 4, 5] _ _ (small1E (ec a) _ 1 (ec_bnd _ _) (a.1 1) rfl s1 cap1 (by omega) hc1) (by rfl) ⟨trivial, by simp [SV.bnd, SV.bndL], by simp [SV.bnd, SV.bndL]⟩ (by first | assumption | exact ec_bnd _ _ | (simp [SV.bnd, SV.bndL]; done)) (by decide) (by intro i hi; (repeat (first | omega | (dsimp only [id]; omega) | split))) (by intro i j; (repeat (first | omega | (dsimp only [id]; omega) | split))) (by repeat' (first | exact HeapIn.nil | refine HeapIn.cons (by decide) (by first | exact Blk.bnd_own0 (by assumption) | exact ec_bnd _ _ | (simp [Blk.bnd, SV.bnd, SV.bndL]; done)) (by simp) (by first | rfl | (rw [Blk.ren_own0 (by assumption)]; rfl)) ?_)) ?_)
    intro cap2 hc2
    simp only [renH, Blk.ren, SV.renL, SV.ren, tau, without, List.mem_singleton, List.mem_cons, List.not_mem_nil, or_false, or_true, true_or, Nat.reduceEqDiff, Nat.reduceLT, Nat.zero_lt_one, Nat.one_ne_zero, Nat.zero_ne_one, Nat.zero_lt_succ, ↓reduceIte, List.cons_append, List.nil_append, List.append_nil, id]
    have hl2 : (e1 1 (a.1 1) s1).1.length < 2 ^ 39 + 2 := by rw [e1_len]; omega
    generalize e1 1 (a.1 1) s1 = s2 at *
    refine hκ.runD 300 ?_
    simp (disch := omega) only [push_cast, simprocAttr, cec, cec1]
    refine hκ.draw (.q 1 (.q 2 (.q 3 (.q 4 (.q 5 (.l 0 [5] (.q 6 (.q 7 (.fin))))))))) [1, 2, 3, 4, 5, 6, 7] (by kernel_rfl) (by kernel_rfl) rfl ?_
    simp (disch := omega) only [push_cast, simprocAttr, cec, cec1]
    refine DCall.of (Does.mpN hκ.hP hκ.hgl calls_ok ⟨trivial, by simp [SV.bnd, SV.bndL]⟩ (fun σ => rfl) ?_)
    by_cases hn : a.1 1 < 1 ∨ 20 < a.1 1
    · have cf := callsF_none hn
      rw [callL_none hn] at hκ
      dsimp only at hκ
      simp (disch := omega) only [push_cast, simprocAttr, cf, cec, cec1]
      refine hκ.run 300 ?_
      simp (disch := omega) only [push_cast, simprocAttr, cec, cec1]
      (first | refine OutOK_guard (fun h => ?_) (fun h => ?_) | refine GF.of (fun h => ?_) (fun h => ?_)) <;> try simp only [Bool.not_true, Bool.not_false, decide_eq_true_eq, decide_eq_false_iff_not, Bool.not_eq_true', Bool.not_eq_false', Bool.and_eq_true, Bool.or_eq_false_iff, Bool.or_eq_true, Bool.and_eq_false_iff] at h
      · simp (disch := omega) only [push_cast, simprocAttr, cec, cec1]
        refine hκ.fin _ _ _ _ _ trivial rfl ?_
        exact Post.E (j := 6) (ec_bnd _ _) trivial (by decide) (by decide)  hc2 (by first | rfl | (simp [dropL, Heap.get ]; done)) (by first | rfl | (simp [dropL, Heap.get, ec ]; done)) (by first | rfl | (simp [dropL, Heap.get ]; done))
      · simp (disch := omega) only [push_cast, simprocAttr, cec, cec1]
        refine hκ.fin _ _ _ _ _ trivial rfl ?_
        exact Post.E (j := 6) (ec_bnd _ _) trivial (by decide) (by decide)  hc2 (by first | rfl | (simp [dropL, Heap.get , h]; done)) (by first | rfl | (simp [dropL, Heap.get, ec , h]; done)) (by first | rfl | (simp [dropL, Heap.get , h]; done))
    have hc : a.1 1 = 1 ∨ a.1 1 = 2 ∨ a.1 1 = 3 ∨ a.1 1 = 10 ∨ a.1 1 = 13 ∨ a.1 1 = 16 ∨ a.1 1 = 18 ∨ a.1 1 = 19 ∨ (a.1 1 = 4 ∨ a.1 1 = 5 ∨ a.1 1 = 6 ∨ a.1 1 = 7 ∨ a.1 1 = 8 ∨ a.1 1 = 9 ∨ a.1 1 = 11 ∨ a.1 1 = 12 ∨ a.1 1 = 20) ∨ (a.1 1 = 14 ∨ a.1 1 = 15 ∨ a.1 1 = 17) := by omega
    rcases hc with hk | hk | hk | hk | hk | hk | hk | hk | hk | hk
    have cf : callsF [a.1 1] = some (.v (.func (.func 60) #[] #[])) := by rw [hk]; rfl
    rw [show callL (a.1 1) = some [100, 119, 99, 113] by rw [hk]; rfl] at hκ
    dsimp only at hκ
    rotate_left
    have cf : callsF [a.1 1] = some (.v (.func (.func 61) #[] #[])) := by rw [hk]; rfl
    rw [show callL (a.1 1) = some [100] by rw [hk]; rfl] at hκ
    dsimp only at hκ
    rotate_left
    have cf : callsF [a.1 1] = some (.v (.func (.func 62) #[] #[])) := by rw [hk]; rfl
    rw [show callL (a.1 1) = some [100, 109] by rw [hk]; rfl] at hκ
    dsimp only at hκ
    rotate_left
    have cf : callsF [a.1 1] = some (.v (.func (.func 63) #[] #[])) := by rw [hk]; rfl
    rw [show callL (a.1 1) = some [118, 110, 97] by rw [hk]; rfl] at hκ
    dsimp only at hκ
    rotate_left
    have cf : callsF [a.1 1] = some (.v (.func (.func 64) #[] #[])) := by rw [hk]; rfl
    rw [show callL (a.1 1) = some [112, 111] by rw [hk]; rfl] at hκ
    dsimp only at hκ
    rotate_left
    have cf : callsF [a.1 1] = some (.v (.func (.func 65) #[] #[])) := by rw [hk]; rfl
    rw [show callL (a.1 1) = some [112, 102] by rw [hk]; rfl] at hκ
    dsimp only at hκ
    rotate_left
    have cf : callsF [a.1 1] = some (.v (.func (.func 66) #[] #[])) := by rw [hk]; rfl
    rw [show callL (a.1 1) = some [112, 118] by rw [hk]; rfl] at hκ
    dsimp only at hκ
    rotate_left
    have cf : callsF [a.1 1] = some (.v (.func (.func 67) #[] #[])) := by rw [hk]; rfl
    rw [show callL (a.1 1) = some [118, 112, 101, 97] by rw [hk]; rfl] at hκ
    dsimp only at hκ
    rotate_left
    have cf : callsF [a.1 1] = some (.v (.func (.func 68) #[] #[])) := by rcases hk with hk | hk | hk | hk | hk | hk | hk | hk | hk <;> rw [hk] <;> rfl
    rw [show callL (a.1 1) = some [118] by rcases hk with hk | hk | hk | hk | hk | hk | hk | hk | hk <;> rw [hk] <;> rfl] at hκ
    dsimp only at hκ
    rotate_left
    have cf : callsF [a.1 1] = some (.v (.func (.func 69) #[] #[])) := by rcases hk with hk | hk | hk <;> rw [hk] <;> rfl
    rw [show callL (a.1 1) = some [112] by rcases hk with hk | hk | hk <;> rw [hk] <;> rfl] at hκ
    dsimp only at hκ
    rotate_left
    all_goals
      simp (disch := omega) only [push_cast, simprocAttr, cf, cec, cec1]
      refine hκ.run 300 ?_
      simp (disch := omega) only [push_cast, simprocAttr, cec, cec1]
    refine (Does.E hκ.hP hκ.hgl _ (fun i => if i = 2 then 6 else i) [0, 1, 6] _ _ (createE a s2 cap2 (by omega) hc2) (by rfl) ⟨trivial, by simp [SV.bnd, SV.bndL], by simp [SV.bnd, SV.bndL]⟩ (by first | assumption | exact ec_bnd _ _ | (simp [SV.bnd, SV.bndL]; done)) (by decide) (by intro i hi; (repeat (first | omega | (dsimp only [id]; omega) | split))) (by intro i j; (repeat (first | omega | (dsimp only [id]; omega) | split))) (by repeat' (first | exact HeapIn.nil | refine HeapIn.cons (by decide) (by first | exact Blk.bnd_own0 (by assumption) | exact ec_bnd _ _ | (simp [Blk.bnd, SV.bnd, SV.bndL]; done)) (by simp) (by first | rfl | (rw [Blk.ren_own0 (by assumption)]; rfl)) ?_)) ?_)
    intro cap3 hc3
    generalize eLs a s2 [100, 119, 99, 113] = t at *
    rotate_left
    refine (Does.E hκ.hP hκ.hgl _ (fun i => if i = 2 then 6 else i) [0, 1, 6] _ _ (destroyE a s2 cap2 (by omega) hc2) (by rfl) ⟨trivial, by simp [SV.bnd, SV.bndL], by simp [SV.bnd, SV.bndL]⟩ (by first | assumption | exact ec_bnd _ _ | (simp [SV.bnd, SV.bndL]; done)) (by decide) (by intro i hi; (repeat (first | omega | (dsimp only [id]; omega) | split))) (by intro i j; (repeat (first | omega | (dsimp only [id]; omega) | split))) (by repeat' (first | exact HeapIn.nil | refine HeapIn.cons (by decide) (by first | exact Blk.bnd_own0 (by assumption) | exact ec_bnd _ _ | (simp [Blk.bnd, SV.bnd, SV.bndL]; done)) (by simp) (by first | rfl | (rw [Blk.ren_own0 (by assumption)]; rfl)) ?_)) ?_)
    intro cap3 hc3
    generalize eLs a s2 [100] = t at *
    rotate_left
    refine (Does.E hκ.hP hκ.hgl _ (fun i => if i = 2 then 6 else i) [0, 1, 6] _ _ (addE a s2 cap2 (by omega) hc2) (by rfl) ⟨trivial, by simp [SV.bnd, SV.bndL], by simp [SV.bnd, SV.bndL]⟩ (by first | assumption | exact ec_bnd _ _ | (simp [SV.bnd, SV.bndL]; done)) (by decide) (by intro i hi; (repeat (first | omega | (dsimp only [id]; omega) | split))) (by intro i j; (repeat (first | omega | (dsimp only [id]; omega) | split))) (by repeat' (first | exact HeapIn.nil | refine HeapIn.cons (by decide) (by first | exact Blk.bnd_own0 (by assumption) | exact ec_bnd _ _ | (simp [Blk.bnd, SV.bnd, SV.bndL]; done)) (by simp) (by first | rfl | (rw [Blk.ren_own0 (by assumption)]; rfl)) ?_)) ?_)
    intro cap3 hc3
    generalize eLs a s2 [100, 109] = t at *
    rotate_left
    refine (Does.E hκ.hP hκ.hgl _ (fun i => if i = 2 then 6 else i) [0, 1, 6] _ _ (pollE a h6 s2 cap2 (by omega) hc2) (by rfl) ⟨trivial, by simp [SV.bnd, SV.bndL], by simp [SV.bnd, SV.bndL]⟩ (by first | assumption | exact ec_bnd _ _ | (simp [SV.bnd, SV.bndL]; done)) (by decide) (by intro i hi; (repeat (first | omega | (dsimp only [id]; omega) | split))) (by intro i j; (repeat (first | omega | (dsimp only [id]; omega) | split))) (by repeat' (first | exact HeapIn.nil | refine HeapIn.cons (by decide) (by first | exact Blk.bnd_own0 (by assumption) | exact ec_bnd _ _ | (simp [Blk.bnd, SV.bnd, SV.bndL]; done)) (by simp) (by first | rfl | (rw [Blk.ren_own0 (by assumption)]; rfl)) ?_)) ?_)
    intro cap3 hc3
    generalize eLs a s2 [118, 110, 97] = t at *
    rotate_left
    refine (Does.E hκ.hP hκ.hgl _ (fun i => if i = 2 then 6 else i) [0, 1, 6] _ _ (linkE a s2 cap2 (by omega) hc2) (by rfl) ⟨trivial, by simp [SV.bnd, SV.bndL], by simp [SV.bnd, SV.bndL]⟩ (by first | assumption | exact ec_bnd _ _ | (simp [SV.bnd, SV.bndL]; done)) (by decide) (by intro i hi; (repeat (first | omega | (dsimp only [id]; omega) | split))) (by intro i j; (repeat (first | omega | (dsimp only [id]; omega) | split))) (by repeat' (first | exact HeapIn.nil | refine HeapIn.cons (by decide) (by first | exact Blk.bnd_own0 (by assumption) | exact ec_bnd _ _ | (simp [Blk.bnd, SV.bnd, SV.bndL]; done)) (by simp) (by first | rfl | (rw [Blk.ren_own0 (by assumption)]; rfl)) ?_)) ?_)
    intro cap3 hc3
    generalize eLs a s2 [112, 111] = t at *
    rotate_left
    refine (Does.E hκ.hP hκ.hgl _ (fun i => if i = 2 then 6 else i) [0, 1, 6] _ _ (masksE a h5 s2 cap2 (by omega) hc2) (by rfl) ⟨trivial, by simp [SV.bnd, SV.bndL], by simp [SV.bnd, SV.bndL]⟩ (by first | assumption | exact ec_bnd _ _ | (simp [SV.bnd, SV.bndL]; done)) (by decide) (by intro i hi; (repeat (first | omega | (dsimp only [id]; omega) | split))) (by intro i j; (repeat (first | omega | (dsimp only [id]; omega) | split))) (by repeat' (first | exact HeapIn.nil | refine HeapIn.cons (by decide) (by first | exact Blk.bnd_own0 (by assumption) | exact ec_bnd _ _ | (simp [Blk.bnd, SV.bnd, SV.bndL]; done)) (by simp) (by first | rfl | (rw [Blk.ren_own0 (by assumption)]; rfl)) ?_)) ?_)
    intro cap3 hc3
    generalize eLs a s2 [112, 102] = t at *
    rotate_left
    refine (Does.E hκ.hP hκ.hgl _ (fun i => if i = 2 then 6 else i) [0, 1, 6] _ _ (bindE a s2 cap2 (by omega) hc2) (by rfl) ⟨trivial, by simp [SV.bnd, SV.bndL], by simp [SV.bnd, SV.bndL]⟩ (by first | assumption | exact ec_bnd _ _ | (simp [SV.bnd, SV.bndL]; done)) (by decide) (by intro i hi; (repeat (first | omega | (dsimp only [id]; omega) | split))) (by intro i j; (repeat (first | omega | (dsimp only [id]; omega) | split))) (by repeat' (first | exact HeapIn.nil | refine HeapIn.cons (by decide) (by first | exact Blk.bnd_own0 (by assumption) | exact ec_bnd _ _ | (simp [Blk.bnd, SV.bnd, SV.bndL]; done)) (by simp) (by first | rfl | (rw [Blk.ren_own0 (by assumption)]; rfl)) ?_)) ?_)
    intro cap3 hc3
    generalize eLs a s2 [112, 118] = t at *
    rotate_left
    refine (Does.E hκ.hP hκ.hgl _ (fun i => if i = 2 then 6 else i) [0, 1, 6] _ _ (startE a s2 cap2 (by omega) hc2) (by rfl) ⟨trivial, by simp [SV.bnd, SV.bndL], by simp [SV.bnd, SV.bndL]⟩ (by first | assumption | exact ec_bnd _ _ | (simp [SV.bnd, SV.bndL]; done)) (by decide) (by intro i hi; (repeat (first | omega | (dsimp only [id]; omega) | split))) (by intro i j; (repeat (first | omega | (dsimp only [id]; omega) | split))) (by repeat' (first | exact HeapIn.nil | refine HeapIn.cons (by decide) (by first | exact Blk.bnd_own0 (by assumption) | exact ec_bnd _ _ | (simp [Blk.bnd, SV.bnd, SV.bndL]; done)) (by simp) (by first | rfl | (rw [Blk.ren_own0 (by assumption)]; rfl)) ?_)) ?_)
    intro cap3 hc3
    generalize eLs a s2 [118, 112, 101, 97] = t at *
    rotate_left
    refine (Does.E hκ.hP hκ.hgl _ (fun i => if i = 2 then 6 else i) [0, 1, 6] _ _ (vcpuE a s2 cap2 (by omega) hc2) (by rfl) ⟨trivial, by simp [SV.bnd, SV.bndL], by simp [SV.bnd, SV.bndL]⟩ (by first | assumption | exact ec_bnd _ _ | (simp [SV.bnd, SV.bndL]; done)) (by decide) (by intro i hi; (repeat (first | omega | (dsimp only [id]; omega) | split))) (by intro i j; (repeat (first | omega | (dsimp only [id]; omega) | split))) (by repeat' (first | exact HeapIn.nil | refine HeapIn.cons (by decide) (by first | exact Blk.bnd_own0 (by assumption) | exact ec_bnd _ _ | (simp [Blk.bnd, SV.bnd, SV.bndL]; done)) (by simp) (by first | rfl | (rw [Blk.ren_own0 (by assumption)]; rfl)) ?_)) ?_)
    intro cap3 hc3
    generalize eLs a s2 [118] = t at *
    rotate_left
    refine (Does.E hκ.hP hκ.hgl _ (fun i => if i = 2 then 6 else i) [0, 1, 6] _ _ (portE a s2 cap2 (by omega) hc2) (by rfl) ⟨trivial, by simp [SV.bnd, SV.bndL], by simp [SV.bnd, SV.bndL]⟩ (by first | assumption | exact ec_bnd _ _ | (simp [SV.bnd, SV.bndL]; done)) (by decide) (by intro i hi; (repeat (first | omega | (dsimp only [id]; omega) | split))) (by intro i j; (repeat (first | omega | (dsimp only [id]; omega) | split))) (by repeat' (first | exact HeapIn.nil | refine HeapIn.cons (by decide) (by first | exact Blk.bnd_own0 (by assumption) | exact ec_bnd _ _ | (simp [Blk.bnd, SV.bnd, SV.bndL]; done)) (by simp) (by first | rfl | (rw [Blk.ren_own0 (by assumption)]; rfl)) ?_)) ?_)
    intro cap3 hc3
    generalize eLs a s2 [112] = t at *
    rotate_left
    all_goals
      simp only [renH, Blk.ren, SV.renL, SV.ren, tau, without, List.mem_singleton, List.mem_cons, List.not_mem_nil, or_false, or_true, true_or, Nat.reduceEqDiff, Nat.reduceLT, Nat.zero_lt_one, Nat.one_ne_zero, Nat.zero_ne_one, Nat.zero_lt_succ, ↓reduceIte, List.cons_append, List.nil_append, List.append_nil, id]
      refine hκ.run 300 ?_
      simp (disch := omega) only [push_cast, simprocAttr, cec, cec1]
      (first | refine OutOK_guard (fun h => ?_) (fun h => ?_) | refine GF.of (fun h => ?_) (fun h => ?_)) <;> try simp only [Bool.not_true, Bool.not_false, decide_eq_true_eq, decide_eq_false_iff_not, Bool.not_eq_true', Bool.not_eq_false', Bool.and_eq_true, Bool.or_eq_false_iff, Bool.or_eq_true, Bool.and_eq_false_iff] at h
    all_goals
      simp (disch := omega) only [push_cast, simprocAttr, cec, cec1]
      refine hκ.fin _ _ _ _ _ trivial rfl ?_
      exact Post.E (j := 8) (ec_bnd _ _) trivial (by decide) (by decide)  hc3 (by first | rfl | (simp [dropL, Heap.get , h]; done)) (by first | rfl | (simp [dropL, Heap.get, ec , h]; done)) (by first | rfl | (simp [dropL, Heap.get , h]; done))
  by_cases k2 : a.1 0 = 2
  · rw [hE, if_neg k1, if_pos k2] at hκ
    generalize e1 1 (a.1 0) s = s1 at *
    rw [k2] at cec
    refine hκ.run 300 ?_
    simp (disch := omega) only [push_cast, simprocAttr, cec, cec1]
    refine (Does.E hκ.hP hκ.hgl _ (fun i => if i = 2 then 4 else if i = 3 then 5 else i) [0, 1, 4, 5] _ _ (small1E (ec a) _ 15 (ec_bnd _ _) (a.1 15) rfl s1 cap1 (by omega) hc1) (by rfl) ⟨trivial, by simp [SV.bnd, SV.bndL], by simp [SV.bnd, SV.bndL]⟩ (by first | assumption | exact ec_bnd _ _ | (simp [SV.bnd, SV.bndL]; done)) (by decide) (by intro i hi; (repeat (first | omega | (dsimp only [id]; omega) | split))) (by intro i j; (repeat (first | omega | (dsimp only [id]; omega) | split))) (by repeat' (first | exact HeapIn.nil | refine HeapIn.cons (by decide) (by first | exact Blk.bnd_own0 (by assumption) | exact ec_bnd _ _ | (simp [Blk.bnd, SV.bnd, SV.bndL]; done)) (by simp) (by first | rfl | (rw [Blk.ren_own0 (by assumption)]; rfl)) ?_)) ?_)
    intro cap2 hc2
    simp only [renH, Blk.ren, SV.renL, SV.ren, tau, without, List.mem_singleton, List.mem_cons, List.not_mem_nil, or_false, or_true, true_or, Nat.reduceEqDiff, Nat.reduceLT, Nat.zero_lt_one, Nat.one_ne_zero, Nat.zero_ne_one, Nat.zero_lt_succ, ↓reduceIte, List.cons_append, List.nil_append, List.append_nil, id]
    have hl2 : (e1 1 (a.1 15) s1).1.length < 2 ^ 39 + 2 := by rw [e1_len]; omega
    generalize e1 1 (a.1 15) s1 = s2 at *
    refine hκ.run 300 ?_
    simp (disch := omega) only [push_cast, simprocAttr, cec, cec1]
    by_cases hn : a.1 15 < 1 ∨ 10 < a.1 15
    · rw [liveL_none hn] at hκ
      dsimp only at hκ
      refine (Does.E hκ.hP hκ.hgl _ (fun i => if i = 2 then 6 else i) [0, 1, 6] _ _ (change0E a hn s2 cap2 hc2) (by rfl) ⟨trivial, by simp [SV.bnd, SV.bndL], by simp [SV.bnd, SV.bndL]⟩ (by first | assumption | exact ec_bnd _ _ | (simp [SV.bnd, SV.bndL]; done)) (by decide) (by intro i hi; (repeat (first | omega | (dsimp only [id]; omega) | split))) (by intro i j; (repeat (first | omega | (dsimp only [id]; omega) | split))) (by repeat' (first | exact HeapIn.nil | refine HeapIn.cons (by decide) (by first | exact Blk.bnd_own0 (by assumption) | exact ec_bnd _ _ | (simp [Blk.bnd, SV.bnd, SV.bndL]; done)) (by simp) (by first | rfl | (rw [Blk.ren_own0 (by assumption)]; rfl)) ?_)) ?_)
      intro cap3 hc3
      simp only [renH, Blk.ren, SV.renL, SV.ren, tau, without, List.mem_singleton, List.mem_cons, List.not_mem_nil, or_false, or_true, true_or, Nat.reduceEqDiff, Nat.reduceLT, Nat.zero_lt_one, Nat.one_ne_zero, Nat.zero_ne_one, Nat.zero_lt_succ, ↓reduceIte, List.cons_append, List.nil_append, List.append_nil, id]
      refine hκ.run 300 ?_
      simp (disch := omega) only [push_cast, simprocAttr, cec, cec1]
      (first | refine OutOK_guard (fun h => ?_) (fun h => ?_) | refine GF.of (fun h => ?_) (fun h => ?_)) <;> try simp only [Bool.not_true, Bool.not_false, decide_eq_true_eq, decide_eq_false_iff_not, Bool.not_eq_true', Bool.not_eq_false', Bool.and_eq_true, Bool.or_eq_false_iff, Bool.or_eq_true, Bool.and_eq_false_iff] at h
      · simp (disch := omega) only [push_cast, simprocAttr, cec, cec1]
        refine hκ.fin _ _ _ _ _ trivial rfl ?_
        exact Post.E (j := 7) (ec_bnd _ _) trivial (by decide) (by decide)  hc3 (by first | rfl | (simp [dropL, Heap.get ]; done)) (by first | rfl | (simp [dropL, Heap.get, ec ]; done)) (by first | rfl | (simp [dropL, Heap.get ]; done))
      · simp (disch := omega) only [push_cast, simprocAttr, cec, cec1]
        refine hκ.fin _ _ _ _ _ trivial rfl ?_
        exact Post.E (j := 7) (ec_bnd _ _) trivial (by decide) (by decide)  hc3 (by first | rfl | (simp [dropL, Heap.get , h]; done)) (by first | rfl | (simp [dropL, Heap.get, ec , h]; done)) (by first | rfl | (simp [dropL, Heap.get , h]; done))
    have hc : a.1 15 = 1 ∨ a.1 15 = 2 ∨ a.1 15 = 3 ∨ a.1 15 = 4 ∨ a.1 15 = 5 ∨ a.1 15 = 6 ∨ a.1 15 = 7 ∨ a.1 15 = 8 ∨ a.1 15 = 9 ∨ a.1 15 = 10 := by omega
    rcases hc with hk | hk | hk | hk | hk | hk | hk | hk | hk | hk
    rw [show liveL (a.1 15) = some [68, 87] by rw [hk]; rfl] at hκ
    dsimp only at hκ
    refine (Does.E hκ.hP hκ.hgl _ (fun i => if i = 2 then 6 else i) [0, 1, 6] _ _ (change1E a hk s2 cap2 (by omega) hc2) (by rfl) ⟨trivial, by simp [SV.bnd, SV.bndL], by simp [SV.bnd, SV.bndL]⟩ (by first | assumption | exact ec_bnd _ _ | (simp [SV.bnd, SV.bndL]; done)) (by decide) (by intro i hi; (repeat (first | omega | (dsimp only [id]; omega) | split))) (by intro i j; (repeat (first | omega | (dsimp only [id]; omega) | split))) (by repeat' (first | exact HeapIn.nil | refine HeapIn.cons (by decide) (by first | exact Blk.bnd_own0 (by assumption) | exact ec_bnd _ _ | (simp [Blk.bnd, SV.bnd, SV.bndL]; done)) (by simp) (by first | rfl | (rw [Blk.ren_own0 (by assumption)]; rfl)) ?_)) ?_)
    intro cap3 hc3
    generalize eLs a s2 [68, 87] = t at *
    rotate_left
    rw [show liveL (a.1 15) = some [68, 67] by rw [hk]; rfl] at hκ
    dsimp only at hκ
    refine (Does.E hκ.hP hκ.hgl _ (fun i => if i = 2 then 6 else i) [0, 1, 6] _ _ (change2E a hk s2 cap2 (by omega) hc2) (by rfl) ⟨trivial, by simp [SV.bnd, SV.bndL], by simp [SV.bnd, SV.bndL]⟩ (by first | assumption | exact ec_bnd _ _ | (simp [SV.bnd, SV.bndL]; done)) (by decide) (by intro i hi; (repeat (first | omega | (dsimp only [id]; omega) | split))) (by intro i j; (repeat (first | omega | (dsimp only [id]; omega) | split))) (by repeat' (first | exact HeapIn.nil | refine HeapIn.cons (by decide) (by first | exact Blk.bnd_own0 (by assumption) | exact ec_bnd _ _ | (simp [Blk.bnd, SV.bnd, SV.bndL]; done)) (by simp) (by first | rfl | (rw [Blk.ren_own0 (by assumption)]; rfl)) ?_)) ?_)
    intro cap3 hc3
    generalize eLs a s2 [68, 67] = t at *
    rotate_left
    rw [show liveL (a.1 15) = some [68, 80] by rw [hk]; rfl] at hκ
    dsimp only at hκ
    refine (Does.E hκ.hP hκ.hgl _ (fun i => if i = 2 then 6 else i) [0, 1, 6] _ _ (change3E a hk s2 cap2 (by omega) hc2) (by rfl) ⟨trivial, by simp [SV.bnd, SV.bndL], by simp [SV.bnd, SV.bndL]⟩ (by first | assumption | exact ec_bnd _ _ | (simp [SV.bnd, SV.bndL]; done)) (by decide) (by intro i hi; (repeat (first | omega | (dsimp only [id]; omega) | split))) (by intro i j; (repeat (first | omega | (dsimp only [id]; omega) | split))) (by repeat' (first | exact HeapIn.nil | refine HeapIn.cons (by decide) (by first | exact Blk.bnd_own0 (by assumption) | exact ec_bnd _ _ | (simp [Blk.bnd, SV.bnd, SV.bndL]; done)) (by simp) (by first | rfl | (rw [Blk.ren_own0 (by assumption)]; rfl)) ?_)) ?_)
    intro cap3 hc3
    generalize eLs a s2 [68, 80] = t at *
    rotate_left
    rw [show liveL (a.1 15) = some [86, 77] by rw [hk]; rfl] at hκ
    dsimp only at hκ
    refine (Does.E hκ.hP hκ.hgl _ (fun i => if i = 2 then 6 else i) [0, 1, 6] _ _ (change4E a hk s2 cap2 (by omega) hc2) (by rfl) ⟨trivial, by simp [SV.bnd, SV.bndL], by simp [SV.bnd, SV.bndL]⟩ (by first | assumption | exact ec_bnd _ _ | (simp [SV.bnd, SV.bndL]; done)) (by decide) (by intro i hi; (repeat (first | omega | (dsimp only [id]; omega) | split))) (by intro i j; (repeat (first | omega | (dsimp only [id]; omega) | split))) (by repeat' (first | exact HeapIn.nil | refine HeapIn.cons (by decide) (by first | exact Blk.bnd_own0 (by assumption) | exact ec_bnd _ _ | (simp [Blk.bnd, SV.bnd, SV.bndL]; done)) (by simp) (by first | rfl | (rw [Blk.ren_own0 (by assumption)]; rfl)) ?_)) ?_)
    intro cap3 hc3
    generalize eLs a s2 [86, 77] = t at *
    rotate_left
    rw [show liveL (a.1 15) = some [78] by rw [hk]; rfl] at hκ
    dsimp only at hκ
    refine (Does.E hκ.hP hκ.hgl _ (fun i => if i = 2 then 6 else i) [0, 1, 6] _ _ (change5E a hk h27 s2 cap2 (by omega) hc2) (by rfl) ⟨trivial, by simp [SV.bnd, SV.bndL], by simp [SV.bnd, SV.bndL]⟩ (by first | assumption | exact ec_bnd _ _ | (simp [SV.bnd, SV.bndL]; done)) (by decide) (by intro i hi; (repeat (first | omega | (dsimp only [id]; omega) | split))) (by intro i j; (repeat (first | omega | (dsimp only [id]; omega) | split))) (by repeat' (first | exact HeapIn.nil | refine HeapIn.cons (by decide) (by first | exact Blk.bnd_own0 (by assumption) | exact ec_bnd _ _ | (simp [Blk.bnd, SV.bnd, SV.bndL]; done)) (by simp) (by first | rfl | (rw [Blk.ren_own0 (by assumption)]; rfl)) ?_)) ?_)
    intro cap3 hc3
    generalize eLs a s2 [78] = t at *
    rotate_left
    rw [show liveL (a.1 15) = some [71] by rw [hk]; rfl] at hκ
    dsimp only at hκ
    refine (Does.E hκ.hP hκ.hgl _ (fun i => if i = 2 then 6 else i) [0, 1, 6] _ _ (change6E a hk s2 cap2 (by omega) hc2) (by rfl) ⟨trivial, by simp [SV.bnd, SV.bndL], by simp [SV.bnd, SV.bndL]⟩ (by first | assumption | exact ec_bnd _ _ | (simp [SV.bnd, SV.bndL]; done)) (by decide) (by intro i hi; (repeat (first | omega | (dsimp only [id]; omega) | split))) (by intro i j; (repeat (first | omega | (dsimp only [id]; omega) | split))) (by repeat' (first | exact HeapIn.nil | refine HeapIn.cons (by decide) (by first | exact Blk.bnd_own0 (by assumption) | exact ec_bnd _ _ | (simp [Blk.bnd, SV.bnd, SV.bndL]; done)) (by simp) (by first | rfl | (rw [Blk.ren_own0 (by assumption)]; rfl)) ?_)) ?_)
    intro cap3 hc3
    generalize eLs a s2 [71] = t at *
    rotate_left
    rw [show liveL (a.1 15) = some [86] by rw [hk]; rfl] at hκ
    dsimp only at hκ
    refine (Does.E hκ.hP hκ.hgl _ (fun i => if i = 2 then 6 else i) [0, 1, 6] _ _ (change7E a hk s2 cap2 (by omega) hc2) (by rfl) ⟨trivial, by simp [SV.bnd, SV.bndL], by simp [SV.bnd, SV.bndL]⟩ (by first | assumption | exact ec_bnd _ _ | (simp [SV.bnd, SV.bndL]; done)) (by decide) (by intro i hi; (repeat (first | omega | (dsimp only [id]; omega) | split))) (by intro i j; (repeat (first | omega | (dsimp only [id]; omega) | split))) (by repeat' (first | exact HeapIn.nil | refine HeapIn.cons (by decide) (by first | exact Blk.bnd_own0 (by assumption) | exact ec_bnd _ _ | (simp [Blk.bnd, SV.bnd, SV.bndL]; done)) (by simp) (by first | rfl | (rw [Blk.ren_own0 (by assumption)]; rfl)) ?_)) ?_)
    intro cap3 hc3
    generalize eLs a s2 [86] = t at *
    rotate_left
    rw [show liveL (a.1 15) = some [80, 83] by rw [hk]; rfl] at hκ
    dsimp only at hκ
    refine (Does.E hκ.hP hκ.hgl _ (fun i => if i = 2 then 6 else i) [0, 1, 6] _ _ (change8E a hk s2 cap2 (by omega) hc2) (by rfl) ⟨trivial, by simp [SV.bnd, SV.bndL], by simp [SV.bnd, SV.bndL]⟩ (by first | assumption | exact ec_bnd _ _ | (simp [SV.bnd, SV.bndL]; done)) (by decide) (by intro i hi; (repeat (first | omega | (dsimp only [id]; omega) | split))) (by intro i j; (repeat (first | omega | (dsimp only [id]; omega) | split))) (by repeat' (first | exact HeapIn.nil | refine HeapIn.cons (by decide) (by first | exact Blk.bnd_own0 (by assumption) | exact ec_bnd _ _ | (simp [Blk.bnd, SV.bnd, SV.bndL]; done)) (by simp) (by first | rfl | (rw [Blk.ren_own0 (by assumption)]; rfl)) ?_)) ?_)
    intro cap3 hc3
    generalize eLs a s2 [80, 83] = t at *
    rotate_left
    rw [show liveL (a.1 15) = some [80, 73] by rw [hk]; rfl] at hκ
    dsimp only at hκ
    refine (Does.E hκ.hP hκ.hgl _ (fun i => if i = 2 then 6 else i) [0, 1, 6] _ _ (change9E a hk s2 cap2 (by omega) hc2) (by rfl) ⟨trivial, by simp [SV.bnd, SV.bndL], by simp [SV.bnd, SV.bndL]⟩ (by first | assumption | exact ec_bnd _ _ | (simp [SV.bnd, SV.bndL]; done)) (by decide) (by intro i hi; (repeat (first | omega | (dsimp only [id]; omega) | split))) (by intro i j; (repeat (first | omega | (dsimp only [id]; omega) | split))) (by repeat' (first | exact HeapIn.nil | refine HeapIn.cons (by decide) (by first | exact Blk.bnd_own0 (by assumption) | exact ec_bnd _ _ | (simp [Blk.bnd, SV.bnd, SV.bndL]; done)) (by simp) (by first | rfl | (rw [Blk.ren_own0 (by assumption)]; rfl)) ?_)) ?_)
    intro cap3 hc3
    generalize eLs a s2 [80, 73] = t at *
    rotate_left
    rw [show liveL (a.1 15) = some [85, 80] by rw [hk]; rfl] at hκ
    dsimp only at hκ
    refine (Does.E hκ.hP hκ.hgl _ (fun i => if i = 2 then 6 else i) [0, 1, 6] _ _ (change10E a hk s2 cap2 (by omega) hc2) (by rfl) ⟨trivial, by simp [SV.bnd, SV.bndL], by simp [SV.bnd, SV.bndL]⟩ (by first | assumption | exact ec_bnd _ _ | (simp [SV.bnd, SV.bndL]; done)) (by decide) (by intro i hi; (repeat (first | omega | (dsimp only [id]; omega) | split))) (by intro i j; (repeat (first | omega | (dsimp only [id]; omega) | split))) (by repeat' (first | exact HeapIn.nil | refine HeapIn.cons (by decide) (by first | exact Blk.bnd_own0 (by assumption) | exact ec_bnd _ _ | (simp [Blk.bnd, SV.bnd, SV.bndL]; done)) (by simp) (by first | rfl | (rw [Blk.ren_own0 (by assumption)]; rfl)) ?_)) ?_)
    intro cap3 hc3
    generalize eLs a s2 [85, 80] = t at *
    rotate_left
    all_goals
      simp only [renH, Blk.ren, SV.renL, SV.ren, tau, without, List.mem_singleton, List.mem_cons, List.not_mem_nil, or_false, or_true, true_or, Nat.reduceEqDiff, Nat.reduceLT, Nat.zero_lt_one, Nat.one_ne_zero, Nat.zero_ne_one, Nat.zero_lt_succ, ↓reduceIte, List.cons_append, List.nil_append, List.append_nil, id]
      refine hκ.run 300 ?_
      simp (disch := omega) only [push_cast, simprocAttr, cec, cec1]
      (first | refine OutOK_guard (fun h => ?_) (fun h => ?_) | refine GF.of (fun h => ?_) (fun h => ?_)) <;> try simp only [Bool.not_true, Bool.not_false, decide_eq_true_eq, decide_eq_false_iff_not, Bool.not_eq_true', Bool.not_eq_false', Bool.and_eq_true, Bool.or_eq_false_iff, Bool.or_eq_true, Bool.and_eq_false_iff] at h
    all_goals
      simp (disch := omega) only [push_cast, simprocAttr, cec, cec1]
      refine hκ.fin _ _ _ _ _ trivial rfl ?_
      exact Post.E (j := 7) (ec_bnd _ _) trivial (by decide) (by decide)  hc3 (by first | rfl | (simp [dropL, Heap.get , h]; done)) (by first | rfl | (simp [dropL, Heap.get, ec , h]; done)) (by first | rfl | (simp [dropL, Heap.get , h]; done))
  by_cases k3 : a.1 0 = 3
  · rw [hE, if_neg k1, if_neg k2, if_pos k3] at hκ
    generalize e1 1 (a.1 0) s = s1 at *
    rw [k3] at cec
    refine hκ.run 300 ?_
    simp (disch := omega) only [push_cast, simprocAttr, cec, cec1]
    refine (Does.E hκ.hP hκ.hgl _ (fun i => if i = 2 then 4 else i) [0, 1, 4] _ _ (oneDE (ec a) _ 28 (ec_bnd _ _) (a.1 28) rfl s1 cap1 (by omega) hc1) (by rfl) ⟨trivial, by simp [SV.bnd, SV.bndL], by simp [SV.bnd, SV.bndL]⟩ (by first | assumption | exact ec_bnd _ _ | (simp [SV.bnd, SV.bndL]; done)) (by decide) (by intro i hi; (repeat (first | omega | (dsimp only [id]; omega) | split))) (by intro i j; (repeat (first | omega | (dsimp only [id]; omega) | split))) (by repeat' (first | exact HeapIn.nil | refine HeapIn.cons (by decide) (by first | exact Blk.bnd_own0 (by assumption) | exact ec_bnd _ _ | (simp [Blk.bnd, SV.bnd, SV.bndL]; done)) (by simp) (by first | rfl | (rw [Blk.ren_own0 (by assumption)]; rfl)) ?_)) ?_)
    intro cap2 hc2
    simp only [renH, Blk.ren, SV.renL, SV.ren, tau, without, List.mem_singleton, List.mem_cons, List.not_mem_nil, or_false, or_true, true_or, Nat.reduceEqDiff, Nat.reduceLT, Nat.zero_lt_one, Nat.one_ne_zero, Nat.zero_ne_one, Nat.zero_lt_succ, ↓reduceIte, List.cons_append, List.nil_append, List.append_nil, id]
    generalize e1 8 (a.1 28) s1 = t at *
    refine hκ.run 300 ?_
    simp (disch := omega) only [push_cast, simprocAttr, cec, cec1]
    (first | refine OutOK_guard (fun h => ?_) (fun h => ?_) | refine GF.of (fun h => ?_) (fun h => ?_)) <;> try simp only [Bool.not_true, Bool.not_false, decide_eq_true_eq, decide_eq_false_iff_not, Bool.not_eq_true', Bool.not_eq_false', Bool.and_eq_true, Bool.or_eq_false_iff, Bool.or_eq_true, Bool.and_eq_false_iff] at h
    · simp (disch := omega) only [push_cast, simprocAttr, cec, cec1]
      refine hκ.fin _ _ _ _ _ trivial rfl ?_
      exact Post.E (j := 5) (ec_bnd _ _) trivial (by decide) (by decide)  hc2 (by first | rfl | (simp [dropL, Heap.get , h]; done)) (by first | rfl | (simp [dropL, Heap.get, ec , h]; done)) (by first | rfl | (simp [dropL, Heap.get , h]; done))
    · simp (disch := omega) only [push_cast, simprocAttr, cec, cec1]
      refine hκ.fin _ _ _ _ _ trivial rfl ?_
      exact Post.E (j := 5) (ec_bnd _ _) trivial (by decide) (by decide)  hc2 (by first | rfl | (simp [dropL, Heap.get , h]; done)) (by first | rfl | (simp [dropL, Heap.get, ec , h]; done)) (by first | rfl | (simp [dropL, Heap.get , h]; done))
  rw [hE, if_neg k1, if_neg k2, if_neg k3] at hκ
  generalize e1 1 (a.1 0) s = s1 at *
  have q1 : (a.1 0 = 1) = False := by first | (simp only [eq_iff_iff, iff_false]; first | assumption | omega) | (simp; omega)
  have q2 : (a.1 0 = 2) = False := by first | (simp only [eq_iff_iff, iff_false]; first | assumption | omega) | (simp; omega)
  have q3 : (a.1 0 = 3) = False := by first | (simp only [eq_iff_iff, iff_false]; first | assumption | omega) | (simp; omega)
  refine hκ.run 300 ?_
  simp (disch := omega) only [push_cast, simprocAttr, cec, cec1, q1, q2, q3]
  (first | refine OutOK_guard (fun h => ?_) (fun h => ?_) | refine GF.of (fun h => ?_) (fun h => ?_)) <;> try simp only [Bool.not_true, Bool.not_false, decide_eq_true_eq, decide_eq_false_iff_not, Bool.not_eq_true', Bool.not_eq_false', Bool.and_eq_true, Bool.or_eq_false_iff, Bool.or_eq_true, Bool.and_eq_false_iff] at h
  · simp (disch := omega) only [push_cast, simprocAttr, cec, cec1, q1, q2, q3]
    refine hκ.fin _ _ _ _ _ trivial rfl ?_
    exact Post.E (j := 4) (ec_bnd _ _) trivial (by decide) (by decide)  hc1 (by first | rfl | (simp [dropL, Heap.get ]; done)) (by first | rfl | (simp [dropL, Heap.get, ec ]; done)) (by first | rfl | (simp [dropL, Heap.get ]; done))
  · simp (disch := omega) only [push_cast, simprocAttr, cec, cec1, q1, q2, q3]
    refine hκ.fin _ _ _ _ _ trivial rfl ?_
    exact Post.E (j := 4) (ec_bnd _ _) trivial (by decide) (by decide)  hc1 (by first | rfl | (simp [dropL, Heap.get , h]; done)) (by first | rfl | (simp [dropL, Heap.get, ec , h]; done)) (by first | rfl | (simp [dropL, Heap.get , h]; done))
end Go.Proofs.Ytmieikflcolbaaa

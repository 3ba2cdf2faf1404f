/- One byte each; lists, masks, flags: to bytes. No condition. -/
import Derived.Test.YtmieikflcolbaaaEb
namespace Go.Proofs.Ytmieikflcolbaaa
open Go Go.Sy
set_option maxRecDepth 100000
set_option linter.unusedSimpArgs false
set_option linter.unusedVariables false
theorem e1_len (w : Nat) (x : Int) (s : Out) : (e1 w x s).1.length = s.1.length + w := by simp [e1, dig_length]
theorem small1E (cs : List SV) (T i : Nat) (hcs : SV.bndL 0 cs) (x : Int) (hi : cut cs i 1 = some [I x]) (s : Out) (cap : Nat) (hs : s.1.length < 2 ^ 45) (hcap : s.1.length ≤ cap) :
    Con Try.prog gl0 (fnv 49) [.ptr 0 0 0 0, .sl 3 1 0 1 1] 4 [(0, CaE 2 cap s), (1, .own cs T), (2, RowB cap s), (3, .own [.ptr 1 0 0 i] 98)] (RetE (e1 1 x s) cs T 4 vd) := by
  refine Con.of Try.ok49 (nt := 16) (res := []) Try.mixed Try.func49 rfl rfl rfl rfl fun κ xc hκ => hκ.run 300 ?_
  simp (disch := omega) only [push_cast, simprocAttr]
  refine Sat.enter ?_
  refine hκ.run 300 ?_
  simp (disch := omega) only [push_cast, simprocAttr]
  refine (Does.E hκ.hP hκ.hgl _ (id) [0, 1, 2] _ _ (oneAE cs T i hcs x hi s cap hs hcap) (by rfl) ⟨trivial, by simp [SV.bnd, SV.bndL], by simp [SV.bnd, SV.bndL]⟩ (by first | assumption | exact ec_bnd _ _ | (simp [SV.bnd, SV.bndL]; done)) (by decide) (by intro i hi; (repeat (first | omega | (dsimp only [id]; omega) | split))) (by intro i j; (repeat (first | omega | (dsimp only [id]; omega) | split))) (by repeat' (first | exact HeapIn.nil | refine HeapIn.cons (by decide) (by first | exact Blk.bnd_own0 (by assumption) | exact ec_bnd _ _ | (simp [Blk.bnd, SV.bnd, SV.bndL]; done)) (by simp) (by first | rfl | (rw [Blk.ren_own0 (by assumption)]; rfl)) ?_)) ?_)
  intro cap1 hc1
  simp only [renH, Blk.ren, SV.renL, SV.ren, tau, without, List.mem_singleton, List.mem_cons, List.not_mem_nil, or_false, or_true, true_or, Nat.reduceEqDiff, Nat.reduceLT, Nat.zero_lt_one, Nat.one_ne_zero, Nat.zero_ne_one, Nat.zero_lt_succ, ↓reduceIte, List.cons_append, List.nil_append, List.append_nil, id]
  refine hκ.run 300 ?_
  simp (disch := omega) only [push_cast, simprocAttr]
  refine Sat.again ?_
  refine hκ.run 300 ?_
  simp (disch := omega) only [push_cast, simprocAttr]
  refine hκ.fin _ _ _ _ _ trivial rfl ?_
  exact Post.E hcs trivial (by decide) (by decide) hc1 rfl rfl rfl
theorem small2E (cs : List SV) (T i j : Nat) (hcs : SV.bndL 0 cs) (x y : Int) (hi : cut cs i 1 = some [I x]) (hj : cut cs j 1 = some [I y]) (s : Out) (cap : Nat) (hs : s.1.length < 2 ^ 44) (hcap : s.1.length ≤ cap) :
    Con Try.prog gl0 (fnv 49) [.ptr 0 0 0 0, .sl 3 1 0 2 2] 4 [(0, CaE 2 cap s), (1, .own cs T), (2, RowB cap s), (3, .own [.ptr 1 0 0 i, .ptr 1 0 0 j] 98)] (RetE (e1 1 y (e1 1 x s)) cs T 4 vd) := by
  refine Con.of Try.ok49 (nt := 16) (res := []) Try.mixed Try.func49 rfl rfl rfl rfl fun κ xc hκ => hκ.run 300 ?_
  simp (disch := omega) only [push_cast, simprocAttr]
  refine Sat.enter ?_
  refine hκ.run 300 ?_
  simp (disch := omega) only [push_cast, simprocAttr]
  refine (Does.E hκ.hP hκ.hgl _ (id) [0, 1, 2] _ _ (oneAE cs T i hcs x hi s cap (by omega) hcap) (by rfl) ⟨trivial, by simp [SV.bnd, SV.bndL], by simp [SV.bnd, SV.bndL]⟩ (by first | assumption | exact ec_bnd _ _ | (simp [SV.bnd, SV.bndL]; done)) (by decide) (by intro i hi; (repeat (first | omega | (dsimp only [id]; omega) | split))) (by intro i j; (repeat (first | omega | (dsimp only [id]; omega) | split))) (by repeat' (first | exact HeapIn.nil | refine HeapIn.cons (by decide) (by first | exact Blk.bnd_own0 (by assumption) | exact ec_bnd _ _ | (simp [Blk.bnd, SV.bnd, SV.bndL]; done)) (by simp) (by first | rfl | (rw [Blk.ren_own0 (by assumption)]; rfl)) ?_)) ?_)
  intro cap1 hc1
  simp only [renH, Blk.ren, SV.renL, SV.ren, tau, without, List.mem_singleton, List.mem_cons, List.not_mem_nil, or_false, or_true, true_or, Nat.reduceEqDiff, Nat.reduceLT, Nat.zero_lt_one, Nat.one_ne_zero, Nat.zero_ne_one, Nat.zero_lt_succ, ↓reduceIte, List.cons_append, List.nil_append, List.append_nil, id]
  refine hκ.run 300 ?_
  simp (disch := omega) only [push_cast, simprocAttr]
  refine Sat.again ?_
  refine hκ.run 300 ?_
  simp (disch := omega) only [push_cast, simprocAttr]
  refine (Does.E hκ.hP hκ.hgl _ (fun i => if i = 2 then 4 else i) [0, 1, 4] _ _ (oneAE cs T j hcs y hj _ cap1 (by rw [e1_len]; omega) hc1) (by rfl) ⟨trivial, by simp [SV.bnd, SV.bndL], by simp [SV.bnd, SV.bndL]⟩ (by first | assumption | exact ec_bnd _ _ | (simp [SV.bnd, SV.bndL]; done)) (by decide) (by intro i hi; (repeat (first | omega | (dsimp only [id]; omega) | split))) (by intro i j; (repeat (first | omega | (dsimp only [id]; omega) | split))) (by repeat' (first | exact HeapIn.nil | refine HeapIn.cons (by decide) (by first | exact Blk.bnd_own0 (by assumption) | exact ec_bnd _ _ | (simp [Blk.bnd, SV.bnd, SV.bndL]; done)) (by simp) (by first | rfl | (rw [Blk.ren_own0 (by assumption)]; rfl)) ?_)) ?_)
  intro cap2 hc2
  simp only [renH, Blk.ren, SV.renL, SV.ren, tau, without, List.mem_singleton, List.mem_cons, List.not_mem_nil, or_false, or_true, true_or, Nat.reduceEqDiff, Nat.reduceLT, Nat.zero_lt_one, Nat.one_ne_zero, Nat.zero_ne_one, Nat.zero_lt_succ, ↓reduceIte, List.cons_append, List.nil_append, List.append_nil]
  refine hκ.run 300 ?_
  simp (disch := omega) only [push_cast, simprocAttr]
  refine Sat.again ?_
  refine hκ.run 300 ?_
  simp (disch := omega) only [push_cast, simprocAttr]
  refine hκ.fin _ _ _ _ _ trivial rfl ?_
  exact Post.E hcs trivial (by decide) (by decide) hc2 rfl rfl rfl
theorem maskCE (a : Evt) (s : Out) (cap : Nat) (hs : s.1.length < 2 ^ 44) (hcap : s.1.length ≤ cap) :
    Con Try.prog gl0 (fnv 70) [.ptr 0 0 0 0, .ptr 1 0 0 13] 3 [(0, CaE 2 cap s), (1, .own (ec a) 37), (2, RowB cap s)] (RetE (e1 4 (a.1 14) (e1 4 (a.1 13) s)) (ec a) 37 3 vd) := by
  refine Con.of Try.ok70 (nt := 14) (res := []) Try.mixed Try.func70 rfl rfl rfl rfl fun κ xc hκ => hκ.run 300 ?_
  simp (disch := omega) only [push_cast, simprocAttr]
  refine (Does.E hκ.hP hκ.hgl _ (id) [0, 1, 2] _ _ (oneCE (ec a) _ 13 (ec_bnd _ _) (a.1 13) rfl s cap (by omega) hcap) (by rfl) ⟨trivial, by simp [SV.bnd, SV.bndL], by simp [SV.bnd, SV.bndL]⟩ (by first | assumption | exact ec_bnd _ _ | (simp [SV.bnd, SV.bndL]; done)) (by decide) (by intro i hi; (repeat (first | omega | (dsimp only [id]; omega) | split))) (by intro i j; (repeat (first | omega | (dsimp only [id]; omega) | split))) (by repeat' (first | exact HeapIn.nil | refine HeapIn.cons (by decide) (by first | exact Blk.bnd_own0 (by assumption) | exact ec_bnd _ _ | (simp [Blk.bnd, SV.bnd, SV.bndL]; done)) (by simp) (by first | rfl | (rw [Blk.ren_own0 (by assumption)]; rfl)) ?_)) ?_)
  intro cap1 hc1
  simp only [renH, Blk.ren, SV.renL, SV.ren, tau, without, List.mem_singleton, List.mem_cons, List.not_mem_nil, or_false, or_true, true_or, Nat.reduceEqDiff, Nat.reduceLT, Nat.zero_lt_one, Nat.one_ne_zero, Nat.zero_ne_one, Nat.zero_lt_succ, ↓reduceIte, List.cons_append, List.nil_append, List.append_nil, id]
  refine hκ.run 300 ?_
  simp (disch := omega) only [push_cast, simprocAttr]
  refine (Does.E hκ.hP hκ.hgl _ (fun i => if i = 2 then 3 else i) [0, 1, 3] _ _ (oneCE (ec a) _ 14 (ec_bnd _ _) (a.1 14) rfl _ cap1 (by rw [e1_len]; omega) hc1) (by rfl) ⟨trivial, by simp [SV.bnd, SV.bndL], by simp [SV.bnd, SV.bndL]⟩ (by first | assumption | exact ec_bnd _ _ | (simp [SV.bnd, SV.bndL]; done)) (by decide) (by intro i hi; (repeat (first | omega | (dsimp only [id]; omega) | split))) (by intro i j; (repeat (first | omega | (dsimp only [id]; omega) | split))) (by repeat' (first | exact HeapIn.nil | refine HeapIn.cons (by decide) (by first | exact Blk.bnd_own0 (by assumption) | exact ec_bnd _ _ | (simp [Blk.bnd, SV.bnd, SV.bndL]; done)) (by simp) (by first | rfl | (rw [Blk.ren_own0 (by assumption)]; rfl)) ?_)) ?_)
  intro cap2 hc2
  simp only [renH, Blk.ren, SV.renL, SV.ren, tau, without, List.mem_singleton, List.mem_cons, List.not_mem_nil, or_false, or_true, true_or, Nat.reduceEqDiff, Nat.reduceLT, Nat.zero_lt_one, Nat.one_ne_zero, Nat.zero_ne_one, Nat.zero_lt_succ, ↓reduceIte, List.cons_append, List.nil_append, List.append_nil]
  refine hκ.run 300 ?_
  simp (disch := omega) only [push_cast, simprocAttr]
  refine hκ.fin _ _ _ _ _ trivial rfl ?_
  exact Post.E (ec_bnd _ _) trivial (by decide) (by decide) hc2 rfl rfl rfl
theorem maskME (a : Evt) (s : Out) (cap : Nat) (hs : s.1.length < 2 ^ 44) (hcap : s.1.length ≤ cap) :
    Con Try.prog gl0 (fnv 70) [.ptr 0 0 0 0, .ptr 1 0 0 24] 3 [(0, CaE 2 cap s), (1, .own (ec a) 37), (2, RowB cap s)] (RetE (e1 4 (a.1 25) (e1 4 (a.1 24) s)) (ec a) 37 3 vd) := by
  refine Con.of Try.ok70 (nt := 14) (res := []) Try.mixed Try.func70 rfl rfl rfl rfl fun κ xc hκ => hκ.run 300 ?_
  simp (disch := omega) only [push_cast, simprocAttr]
  refine (Does.E hκ.hP hκ.hgl _ (id) [0, 1, 2] _ _ (oneCE (ec a) _ 24 (ec_bnd _ _) (a.1 24) rfl s cap (by omega) hcap) (by rfl) ⟨trivial, by simp [SV.bnd, SV.bndL], by simp [SV.bnd, SV.bndL]⟩ (by first | assumption | exact ec_bnd _ _ | (simp [SV.bnd, SV.bndL]; done)) (by decide) (by intro i hi; (repeat (first | omega | (dsimp only [id]; omega) | split))) (by intro i j; (repeat (first | omega | (dsimp only [id]; omega) | split))) (by repeat' (first | exact HeapIn.nil | refine HeapIn.cons (by decide) (by first | exact Blk.bnd_own0 (by assumption) | exact ec_bnd _ _ | (simp [Blk.bnd, SV.bnd, SV.bndL]; done)) (by simp) (by first | rfl | (rw [Blk.ren_own0 (by assumption)]; rfl)) ?_)) ?_)
  intro cap1 hc1
  simp only [renH, Blk.ren, SV.renL, SV.ren, tau, without, List.mem_singleton, List.mem_cons, List.not_mem_nil, or_false, or_true, true_or, Nat.reduceEqDiff, Nat.reduceLT, Nat.zero_lt_one, Nat.one_ne_zero, Nat.zero_ne_one, Nat.zero_lt_succ, ↓reduceIte, List.cons_append, List.nil_append, List.append_nil, id]
  refine hκ.run 300 ?_
  simp (disch := omega) only [push_cast, simprocAttr]
  refine (Does.E hκ.hP hκ.hgl _ (fun i => if i = 2 then 3 else i) [0, 1, 3] _ _ (oneCE (ec a) _ 25 (ec_bnd _ _) (a.1 25) rfl _ cap1 (by rw [e1_len]; omega) hc1) (by rfl) ⟨trivial, by simp [SV.bnd, SV.bndL], by simp [SV.bnd, SV.bndL]⟩ (by first | assumption | exact ec_bnd _ _ | (simp [SV.bnd, SV.bndL]; done)) (by decide) (by intro i hi; (repeat (first | omega | (dsimp only [id]; omega) | split))) (by intro i j; (repeat (first | omega | (dsimp only [id]; omega) | split))) (by repeat' (first | exact HeapIn.nil | refine HeapIn.cons (by decide) (by first | exact Blk.bnd_own0 (by assumption) | exact ec_bnd _ _ | (simp [Blk.bnd, SV.bnd, SV.bndL]; done)) (by simp) (by first | rfl | (rw [Blk.ren_own0 (by assumption)]; rfl)) ?_)) ?_)
  intro cap2 hc2
  simp only [renH, Blk.ren, SV.renL, SV.ren, tau, without, List.mem_singleton, List.mem_cons, List.not_mem_nil, or_false, or_true, true_or, Nat.reduceEqDiff, Nat.reduceLT, Nat.zero_lt_one, Nat.one_ne_zero, Nat.zero_ne_one, Nat.zero_lt_succ, ↓reduceIte, List.cons_append, List.nil_append, List.append_nil]
  refine hκ.run 300 ?_
  simp (disch := omega) only [push_cast, simprocAttr]
  refine hκ.fin _ _ _ _ _ trivial rfl ?_
  exact Post.E (ec_bnd _ _) trivial (by decide) (by decide) hc2 rfl rfl rfl
theorem flagE (a : Evt) (h5 : a.1 5 = 0 ∨ a.1 5 = 1) (s : Out) (cap : Nat) (hs : s.1.length < 2 ^ 44) (hcap : s.1.length ≤ cap) :
    Con Try.prog gl0 (fnv 80) [.ptr 0 0 0 0, .ptr 1 0 0 5] 3 [(0, CaE 2 cap s), (1, .own (ec a) 37), (2, RowB cap s)] (RetE (e1 1 (a.1 5) s) (ec a) 37 3 vd) := by
  have ecx : ec a = ec a := rfl
  refine Con.of Try.ok80 (nt := 26) (res := []) Try.mixed Try.func80 rfl rfl rfl rfl fun κ xc hκ => hκ.run 300 ?_
  simp (disch := omega) only [push_cast, simprocAttr, ec]
  rcases h5 with h5 | h5
  · simp only [h5, show ((0 : Int) = 1) = False by simp, decide_false]
    rw [h5] at hκ
    simp (disch := omega) only [push_cast, simprocAttr, ec]
    refine (Does.E hκ.hP hκ.hgl _ (fun i => if i = 1 then 3 else if i = 3 then 4 else i) [0, 3, 2, 4] _ _ (small1E [I 0] _ 0 (by simp [SV.bnd, SV.bndL]) 0 rfl s cap (by omega) hcap) (by rfl) ⟨trivial, by simp [SV.bnd, SV.bndL], by simp [SV.bnd, SV.bndL]⟩ (by first | assumption | exact ec_bnd _ _ | (simp [SV.bnd, SV.bndL]; done)) (by decide) (by intro i hi; (repeat (first | omega | (dsimp only [id]; omega) | split))) (by intro i j; (repeat (first | omega | (dsimp only [id]; omega) | split))) (by repeat' (first | exact HeapIn.nil | refine HeapIn.cons (by decide) (by first | exact Blk.bnd_own0 (by assumption) | exact ec_bnd _ _ | (simp [Blk.bnd, SV.bnd, SV.bndL]; done)) (by simp) (by first | rfl | (rw [Blk.ren_own0 (by assumption)]; rfl)) ?_)) ?_)
    intro cap1 hc1
    simp only [renH, Blk.ren, SV.renL, SV.ren, tau, without, List.mem_singleton, List.mem_cons, List.not_mem_nil, or_false, or_true, true_or, Nat.reduceEqDiff, Nat.reduceLT, Nat.zero_lt_one, Nat.one_ne_zero, Nat.zero_ne_one, Nat.zero_lt_succ, ↓reduceIte, List.cons_append, List.nil_append, List.append_nil]
    refine hκ.run 300 ?_
    simp (disch := omega) only [push_cast, simprocAttr, ec]
    (first | refine OutOK_guard (fun h => ?_) (fun h => ?_) | refine GF.of (fun h => ?_) (fun h => ?_)) <;> try simp only [Bool.not_true, Bool.not_false, decide_eq_true_eq, decide_eq_false_iff_not, Bool.not_eq_true', Bool.not_eq_false', Bool.and_eq_true, Bool.or_eq_false_iff, Bool.or_eq_true, Bool.and_eq_false_iff] at h
    · simp (disch := omega) only [push_cast, simprocAttr, ec]
      refine hκ.fin _ _ _ _ _ trivial rfl ?_
      exact Post.E (j := 5) (ec_bnd _ _) trivial (by decide) (by decide)  hc1 (by first | rfl | (simp [dropL, Heap.get , h, h5]; done)) (by first | rfl | (simp [dropL, Heap.get, ec , h, h5]; done)) (by first | rfl | (simp [dropL, Heap.get , h, h5]; done))
    · simp (disch := omega) only [push_cast, simprocAttr, ec]
      refine hκ.fin _ _ _ _ _ trivial rfl ?_
      exact Post.E (j := 5) (ec_bnd _ _) trivial (by decide) (by decide)  hc1 (by first | rfl | (simp [dropL, Heap.get , h, h5]; done)) (by first | rfl | (simp [dropL, Heap.get, ec , h, h5]; done)) (by first | rfl | (simp [dropL, Heap.get , h, h5]; done))
  · simp only [h5, decide_true]
    rw [h5] at hκ
    simp (disch := omega) only [push_cast, simprocAttr, ec]
    refine (Does.E hκ.hP hκ.hgl _ (fun i => if i = 1 then 3 else if i = 3 then 4 else i) [0, 3, 2, 4] _ _ (small1E [I 1] _ 0 (by simp [SV.bnd, SV.bndL]) 1 rfl s cap (by omega) hcap) (by rfl) ⟨trivial, by simp [SV.bnd, SV.bndL], by simp [SV.bnd, SV.bndL]⟩ (by first | assumption | exact ec_bnd _ _ | (simp [SV.bnd, SV.bndL]; done)) (by decide) (by intro i hi; (repeat (first | omega | (dsimp only [id]; omega) | split))) (by intro i j; (repeat (first | omega | (dsimp only [id]; omega) | split))) (by repeat' (first | exact HeapIn.nil | refine HeapIn.cons (by decide) (by first | exact Blk.bnd_own0 (by assumption) | exact ec_bnd _ _ | (simp [Blk.bnd, SV.bnd, SV.bndL]; done)) (by simp) (by first | rfl | (rw [Blk.ren_own0 (by assumption)]; rfl)) ?_)) ?_)
    intro cap1 hc1
    simp only [renH, Blk.ren, SV.renL, SV.ren, tau, without, List.mem_singleton, List.mem_cons, List.not_mem_nil, or_false, or_true, true_or, Nat.reduceEqDiff, Nat.reduceLT, Nat.zero_lt_one, Nat.one_ne_zero, Nat.zero_ne_one, Nat.zero_lt_succ, ↓reduceIte, List.cons_append, List.nil_append, List.append_nil]
    refine hκ.run 300 ?_
    simp (disch := omega) only [push_cast, simprocAttr, ec]
    (first | refine OutOK_guard (fun h => ?_) (fun h => ?_) | refine GF.of (fun h => ?_) (fun h => ?_)) <;> try simp only [Bool.not_true, Bool.not_false, decide_eq_true_eq, decide_eq_false_iff_not, Bool.not_eq_true', Bool.not_eq_false', Bool.and_eq_true, Bool.or_eq_false_iff, Bool.or_eq_true, Bool.and_eq_false_iff] at h
    · simp (disch := omega) only [push_cast, simprocAttr, ec]
      refine hκ.fin _ _ _ _ _ trivial rfl ?_
      exact Post.E (j := 5) (ec_bnd _ _) trivial (by decide) (by decide)  hc1 (by first | rfl | (simp [dropL, Heap.get , h, h5]; done)) (by first | rfl | (simp [dropL, Heap.get, ec , h, h5]; done)) (by first | rfl | (simp [dropL, Heap.get , h, h5]; done))
    · simp (disch := omega) only [push_cast, simprocAttr, ec]
      refine hκ.fin _ _ _ _ _ trivial rfl ?_
      exact Post.E (j := 5) (ec_bnd _ _) trivial (by decide) (by decide)  hc1 (by first | rfl | (simp [dropL, Heap.get , h, h5]; done)) (by first | rfl | (simp [dropL, Heap.get, ec , h, h5]; done)) (by first | rfl | (simp [dropL, Heap.get , h, h5]; done))
def eNs : List Int → Out → Out
  | [], s => s
  | x :: l, s => if s.2 = true then s else eNs l (e1 1 x s)
def eL (l : List Int) (s : Out) : Out := eNs l ((e1 1 l.length s).1, (e1 1 l.length s).2 || decide (32 < l.length))
theorem eNs_bad (l : List Int) (s : Out) (h : s.2 = true) : eNs l s = s := by
  cases l <;> simp [eNs, h]
theorem eNs_step {l : List Int} {k : Nat} (s : Out) (h : k < l.length) (hb : s.2 = false) : eNs (l.drop k) s = eNs (l.drop (k + 1)) (e1 1 (l.getD k default) s) := by
  rw [List.drop_eq_getElem_cons h, eNs, if_neg (by simp [hb])]
  simp [List.getD, h]
theorem listCE (a : Evt) (hl : a.2.1.length < 2 ^ 40) (s : Out) (cap : Nat) (hs : s.1.length < 2 ^ 44) (hcap : s.1.length ≤ cap) :
    Con Try.prog gl0 (fnv 71) [.ptr 0 0 0 0, .ptr 1 0 0 6] 3 [(0, CaE 2 cap s), (1, .own (ec a) 37), (2, RowB cap s)] (RetE (eL a.2.1 s) (ec a) 37 3 vd) := by
  refine Con.of Try.ok71 (nt := 68) (res := []) Try.mixed Try.func71 rfl rfl rfl rfl fun κ xc hκ => hκ.run 300 ?_
  simp (disch := omega) only [push_cast, simprocAttr, ec]
  refine (Does.E hκ.hP hκ.hgl _ (fun i => if i = 1 then 3 else if i = 3 then 4 else i) [0, 3, 2, 4] _ _ (small1E [I a.2.1.length] _ 0 (by simp [SV.bnd, SV.bndL]) a.2.1.length rfl s cap (by omega) hcap) (by rfl) ⟨trivial, by simp [SV.bnd, SV.bndL], by simp [SV.bnd, SV.bndL]⟩ (by first | assumption | exact ec_bnd _ _ | (simp [SV.bnd, SV.bndL]; done)) (by decide) (by intro i hi; (repeat (first | omega | (dsimp only [id]; omega) | split))) (by intro i j; (repeat (first | omega | (dsimp only [id]; omega) | split))) (by repeat' (first | exact HeapIn.nil | refine HeapIn.cons (by decide) (by first | exact Blk.bnd_own0 (by assumption) | exact ec_bnd _ _ | (simp [Blk.bnd, SV.bnd, SV.bndL]; done)) (by simp) (by first | rfl | (rw [Blk.ren_own0 (by assumption)]; rfl)) ?_)) ?_)
  intro cap1 hc1
  simp only [renH, Blk.ren, SV.renL, SV.ren, tau, without, List.mem_singleton, List.mem_cons, List.not_mem_nil, or_false, or_true, true_or, Nat.reduceEqDiff, Nat.reduceLT, Nat.zero_lt_one, Nat.one_ne_zero, Nat.zero_ne_one, Nat.zero_lt_succ, ↓reduceIte, List.cons_append, List.nil_append, List.append_nil]
  refine hκ.run 300 ?_
  simp (disch := omega) only [push_cast, simprocAttr, ec]
  apply Sat.join (α := Unit) (nx := 6) (dfs := []) (fun _ => True) (fun _ => ([(5, I 0), (4, .ptr 3 0 0 0), (0, .ptr 0 0 0 0), (1, .ptr 1 0 0 6)], [(0, CaE 5 cap1 ((e1 1 a.2.1.length s).1, (e1 1 a.2.1.length s).2 || decide (32 < a.2.1.length))), (3, .own [I a.2.1.length] 3), (5, RowB cap1 ((e1 1 a.2.1.length s).1, (e1 1 a.2.1.length s).2 || decide (32 < a.2.1.length))), (1, .own (ec a) 37)]))
  · intro hj
    have hj := hj () trivial
    dsimp only at hj
    refine OutOK_fork (fun h => ?_) (fun h => ?_) <;> try simp only [Bool.not_true, Bool.not_false, decide_eq_true_eq, decide_eq_false_iff_not, Bool.not_eq_true', Bool.not_eq_false', Bool.and_eq_true, Bool.or_eq_false_iff, Bool.or_eq_true, Bool.and_eq_false_iff] at h
    · simp (disch := omega) only [push_cast, simprocAttr, ec]
      rw [show ((e1 1 a.2.1.length s).2 || decide (32 < a.2.1.length)) = true by simp; omega] at hj
      exact hj.less (by repeat' (first | exact EnvSub.nil _ | exact HeapSub.nil _ | refine EnvSub.cons rfl ?_ | refine HeapSub.cons rfl ?_ | (refine EnvSub.cons (by simp [Env.get]; done) ?_) | (refine HeapSub.cons (by simp [Heap.get]; done) ?_))) (by repeat' (first | exact EnvSub.nil _ | exact HeapSub.nil _ | refine EnvSub.cons rfl ?_ | refine HeapSub.cons rfl ?_ | (refine EnvSub.cons (by simp [Env.get]; done) ?_) | (refine HeapSub.cons (by simp [Heap.get]; done) ?_)))
    · simp (disch := omega) only [push_cast, simprocAttr, ec]
      rw [show ((e1 1 a.2.1.length s).2 || decide (32 < a.2.1.length)) = (e1 1 a.2.1.length s).2 by simp; omega] at hj
      exact hj.less (by repeat' (first | exact EnvSub.nil _ | exact HeapSub.nil _ | refine EnvSub.cons rfl ?_ | refine HeapSub.cons rfl ?_ | (refine EnvSub.cons (by simp [Env.get]; done) ?_) | (refine HeapSub.cons (by simp [Heap.get]; done) ?_))) (by repeat' (first | exact EnvSub.nil _ | exact HeapSub.nil _ | refine EnvSub.cons rfl ?_ | refine HeapSub.cons rfl ?_ | (refine EnvSub.cons (by simp [Env.get]; done) ?_) | (refine HeapSub.cons (by simp [Heap.get]; done) ?_)))
  intro _ _
  dsimp only
  have hsl : (e1 1 a.2.1.length s).1.length < 2 ^ 44 + 1 := by rw [e1_len]; omega
  have hf : eNs a.2.1 ((e1 1 a.2.1.length s).1, (e1 1 a.2.1.length s).2 || decide (32 < a.2.1.length)) = eL a.2.1 s := rfl
  generalize (e1 1 a.2.1.length s).1 = o1 at *
  generalize ((e1 1 a.2.1.length s).2 || decide (32 < a.2.1.length)) = bad1 at *
  refine Sat.less (Sat.loop (γ := Nat × Out × Nat) (fun g => ([(5, I g.1), (4, .ptr 3 0 0 0), (0, .ptr 0 0 0 0), (1, .ptr 1 0 0 6)], [(0, CaE 5 g.2.2 g.2.1), (3, .own [I a.2.1.length] 3), (5, RowB g.2.2 g.2.1), (1, .own (ec a) 37)], 6)) (fun g => a.2.1.length - g.1) (fun g => g.1 ≤ a.2.1.length ∧ g.2.1.1.length ≤ g.2.2 ∧ g.2.1.1.length < 2 ^ 44 + 1 + g.1 ∧ eNs (a.2.1.drop g.1) g.2.1 = eL a.2.1 s) ?round (0, (o1, bad1), cap1) ⟨Nat.zero_le _, hc1, by simpa using hsl, hf⟩) (by repeat' (first | exact EnvSub.nil _ | exact HeapSub.nil _ | refine EnvSub.cons rfl ?_ | refine HeapSub.cons rfl ?_ | (refine EnvSub.cons (by simp [Env.get]; done) ?_) | (refine HeapSub.cons (by simp [Heap.get]; done) ?_))) (by repeat' (first | exact EnvSub.nil _ | exact HeapSub.nil _ | refine EnvSub.cons rfl ?_ | refine HeapSub.cons rfl ?_ | (refine EnvSub.cons (by simp [Env.get]; done) ?_) | (refine HeapSub.cons (by simp [Heap.get]; done) ?_)))
  case round =>
    rintro ⟨k, ⟨o2, b2⟩, cp⟩ ⟨hk, hcp, hsl, hl⟩ ih
    dsimp only at hk hcp hl hsl ih ⊢
    have hend : k = a.2.1.length ∨ b2 = true → eL a.2.1 s = (o2, b2) := by
      rintro (rfl | h)
      · rw [← hl]; simp [eNs]
      · rw [← hl, eNs_bad _ _ h]
    refine hκ.run 300 ?_
    simp (disch := omega) only [push_cast, simprocAttr]
    by_cases hkl : k < a.2.1.length
    · have q1 : ((k : Int) < a.2.1.length) = True := by first | (simp only [eq_iff_iff, iff_true]; first | assumption | omega) | (simp; omega)
      simp (disch := omega) only [push_cast, simprocAttr, q1]
      cases b2
      · refine Does.inl hκ.hP hκ.hgl Try.ok47 (nt := 22) (res := [.tmp 2]) Try.mixed Try.func47 rfl rfl rfl rfl fun κ_hst x_hst hst => hst.run 300 ?_
        simp (disch := omega) only [push_cast, simprocAttr]
        refine hst.ret _ _ _ _ _ _ trivial rfl ?_
        refine hκ.run 300 ?_
        simp (disch := omega) only [push_cast, simprocAttr]
        have gk : (List.map (eI .i64) a.2.1).getD k [] = [I (a.2.1.getD k default)] := getD_map _ _ _ hkl
        have hz := fun cap h => ih (k + 1, e1 1 (a.2.1.getD k default) (o2, false), cap) ⟨by dsimp only; omega, h, by rw [e1_len]; dsimp only; omega, by rw [← hl, eNs_step _ hkl rfl]⟩ (by dsimp only; omega)
        have cec : cut (ec a) 6 1 = some [Is a.2.1] := rfl
        simp (disch := omega) only [push_cast, simprocAttr, gk, cec]
        (repeat (refine ⟨by first | omega | (refine ⟨?_, ?_⟩ <;> omega) | trivial | (simp; done) | decide +kernel, fun _ => ?_⟩))
        refine (Does.E hκ.hP hκ.hgl _ (fun i => if i = 1 then 6 else if i = 2 then 5 else if i = 3 then 7 else i) [0, 6, 5, 7] _ _ (small1E [I (a.2.1.getD k default)] _ 0 (by simp [SV.bnd, SV.bndL]) (a.2.1.getD k default) rfl (o2, false) cp (by dsimp only; omega) hcp) (by rfl) ⟨trivial, by simp [SV.bnd, SV.bndL], by simp [SV.bnd, SV.bndL]⟩ (by first | assumption | exact ec_bnd _ _ | (simp [SV.bnd, SV.bndL]; done)) (by decide) (by intro i hi; (repeat (first | omega | (dsimp only [id]; omega) | split))) (by intro i j; (repeat (first | omega | (dsimp only [id]; omega) | split))) (by repeat' (first | exact HeapIn.nil | refine HeapIn.cons (by decide) (by first | exact Blk.bnd_own0 (by assumption) | exact ec_bnd _ _ | (simp [Blk.bnd, SV.bnd, SV.bndL]; done)) (by simp) (by first | rfl | (rw [Blk.ren_own0 (by assumption)]; rfl)) ?_)) ?_)
        intro cap2 hc2
        simp only [renH, Blk.ren, SV.renL, SV.ren, tau, without, List.mem_singleton, List.mem_cons, List.not_mem_nil, or_false, or_true, true_or, Nat.reduceEqDiff, Nat.reduceLT, Nat.zero_lt_one, Nat.one_ne_zero, Nat.zero_ne_one, Nat.zero_lt_succ, ↓reduceIte, List.cons_append, List.nil_append, List.append_nil]
        refine hκ.run 300 ?_
        simp (disch := omega) only [push_cast, simprocAttr, gk, cec]
        have hy := hz cap2 hc2
        dsimp only at hy
        refine Sat.via (fun i => if i = 5 then 8 else i) (hy) (by intro i j; (repeat (first | omega | split))) (by repeat' (first | exact EnvVia.nil | refine EnvVia.cons (by first | trivial | decide | (simp [SV.bnd, SV.bndL]; done)) rfl ?_)) (by repeat' (first | exact HeapVia.nil | refine HeapVia.cons (by decide) (by first | trivial | exact Blk.bnd_own0 (by assumption) | (simp [Blk.bnd, SV.bnd, SV.bndL]; done) | exact bndL_mapV _ _ _ | exact LR.bnd (by rw [l2]; simp [bndE, SV.bnd, SV.bndL]) (by rw [l6]; decide)) (by first | (rw [Blk.ren_own0 (by assumption)]; rfl) | rfl | (simp only [Blk.ren, renL_mapV]; rfl) | (rw [LR.ren (by rw [l2] <;> rfl) (by rw [l6] <;> rfl)]; rfl)) ?_)) ⟨by have := hκ.hm; (try dsimp only at this); (first | done | omega), fun i hi => by have := hκ.hm; (try dsimp only at this); (first | omega | (dsimp only; omega) | (rw [if_neg (by omega)]))⟩ ⟨by simp, rfl⟩
      · refine Does.inl hκ.hP hκ.hgl Try.ok47 (nt := 22) (res := [.tmp 2]) Try.mixed Try.func47 rfl rfl rfl rfl fun κ_hst x_hst hst => hst.run 300 ?_
        simp (disch := omega) only [push_cast, simprocAttr]
        refine hst.ret _ _ _ _ _ _ trivial rfl ?_
        refine hκ.run 300 ?_
        simp (disch := omega) only [push_cast, simprocAttr]
        refine hκ.fin _ _ _ _ _ trivial rfl ?_
        rw [hend (Or.inr rfl)]
        exact Post.E (j := 5) (ec_bnd _ _) trivial (by decide) (by decide)  hcp (by first | rfl | (simp [dropL, Heap.get ]; done)) (by first | rfl | (simp [dropL, Heap.get, ec ]; done)) (by first | rfl | (simp [dropL, Heap.get ]; done))
    · have q1 : ((k : Int) < a.2.1.length) = False := by first | (simp only [eq_iff_iff, iff_false]; first | assumption | omega) | (simp; omega)
      simp (disch := omega) only [push_cast, simprocAttr, q1]
      refine hκ.fin _ _ _ _ _ trivial rfl ?_
      rw [hend (Or.inl (by omega))]
      exact Post.E (j := 5) (ec_bnd _ _) trivial (by decide) (by decide)  hcp (by first | rfl | (simp [dropL, Heap.get ]; done)) (by first | rfl | (simp [dropL, Heap.get, ec ]; done)) (by first | rfl | (simp [dropL, Heap.get ]; done))
theorem listME (a : Evt) (hl : a.2.2.length < 2 ^ 40) (s : Out) (cap : Nat) (hs : s.1.length < 2 ^ 44) (hcap : s.1.length ≤ cap) :
    Con Try.prog gl0 (fnv 71) [.ptr 0 0 0 0, .ptr 1 0 0 27] 3 [(0, CaE 2 cap s), (1, .own (ec a) 37), (2, RowB cap s)] (RetE (eL a.2.2 s) (ec a) 37 3 vd) := by
  refine Con.of Try.ok71 (nt := 68) (res := []) Try.mixed Try.func71 rfl rfl rfl rfl fun κ xc hκ => hκ.run 300 ?_
  simp (disch := omega) only [push_cast, simprocAttr, ec]
  refine (Does.E hκ.hP hκ.hgl _ (fun i => if i = 1 then 3 else if i = 3 then 4 else i) [0, 3, 2, 4] _ _ (small1E [I a.2.2.length] _ 0 (by simp [SV.bnd, SV.bndL]) a.2.2.length rfl s cap (by omega) hcap) (by rfl) ⟨trivial, by simp [SV.bnd, SV.bndL], by simp [SV.bnd, SV.bndL]⟩ (by first | assumption | exact ec_bnd _ _ | (simp [SV.bnd, SV.bndL]; done)) (by decide) (by intro i hi; (repeat (first | omega | (dsimp only [id]; omega) | split))) (by intro i j; (repeat (first | omega | (dsimp only [id]; omega) | split))) (by repeat' (first | exact HeapIn.nil | refine HeapIn.cons (by decide) (by first | exact Blk.bnd_own0 (by assumption) | exact ec_bnd _ _ | (simp [Blk.bnd, SV.bnd, SV.bndL]; done)) (by simp) (by first | rfl | (rw [Blk.ren_own0 (by assumption)]; rfl)) ?_)) ?_)
  intro cap1 hc1
  simp only [renH, Blk.ren, SV.renL, SV.ren, tau, without, List.mem_singleton, List.mem_cons, List.not_mem_nil, or_false, or_true, true_or, Nat.reduceEqDiff, Nat.reduceLT, Nat.zero_lt_one, Nat.one_ne_zero, Nat.zero_ne_one, Nat.zero_lt_succ, ↓reduceIte, List.cons_append, List.nil_append, List.append_nil]
  refine hκ.run 300 ?_
  simp (disch := omega) only [push_cast, simprocAttr, ec]
  apply Sat.join (α := Unit) (nx := 6) (dfs := []) (fun _ => True) (fun _ => ([(5, I 0), (4, .ptr 3 0 0 0), (0, .ptr 0 0 0 0), (1, .ptr 1 0 0 27)], [(0, CaE 5 cap1 ((e1 1 a.2.2.length s).1, (e1 1 a.2.2.length s).2 || decide (32 < a.2.2.length))), (3, .own [I a.2.2.length] 3), (5, RowB cap1 ((e1 1 a.2.2.length s).1, (e1 1 a.2.2.length s).2 || decide (32 < a.2.2.length))), (1, .own (ec a) 37)]))
  · intro hj
    have hj := hj () trivial
    dsimp only at hj
    refine OutOK_fork (fun h => ?_) (fun h => ?_) <;> try simp only [Bool.not_true, Bool.not_false, decide_eq_true_eq, decide_eq_false_iff_not, Bool.not_eq_true', Bool.not_eq_false', Bool.and_eq_true, Bool.or_eq_false_iff, Bool.or_eq_true, Bool.and_eq_false_iff] at h
    · simp (disch := omega) only [push_cast, simprocAttr, ec]
      rw [show ((e1 1 a.2.2.length s).2 || decide (32 < a.2.2.length)) = true by simp; omega] at hj
      exact hj.less (by repeat' (first | exact EnvSub.nil _ | exact HeapSub.nil _ | refine EnvSub.cons rfl ?_ | refine HeapSub.cons rfl ?_ | (refine EnvSub.cons (by simp [Env.get]; done) ?_) | (refine HeapSub.cons (by simp [Heap.get]; done) ?_))) (by repeat' (first | exact EnvSub.nil _ | exact HeapSub.nil _ | refine EnvSub.cons rfl ?_ | refine HeapSub.cons rfl ?_ | (refine EnvSub.cons (by simp [Env.get]; done) ?_) | (refine HeapSub.cons (by simp [Heap.get]; done) ?_)))
    · simp (disch := omega) only [push_cast, simprocAttr, ec]
      rw [show ((e1 1 a.2.2.length s).2 || decide (32 < a.2.2.length)) = (e1 1 a.2.2.length s).2 by simp; omega] at hj
      exact hj.less (by repeat' (first | exact EnvSub.nil _ | exact HeapSub.nil _ | refine EnvSub.cons rfl ?_ | refine HeapSub.cons rfl ?_ | (refine EnvSub.cons (by simp [Env.get]; done) ?_) | (refine HeapSub.cons (by simp [Heap.get]; done) ?_))) (by repeat' (first | exact EnvSub.nil _ | exact HeapSub.nil _ | refine EnvSub.cons rfl ?_ | refine HeapSub.cons rfl ?_ | (refine EnvSub.cons (by simp [Env.get]; done) ?_) | (refine HeapSub.cons (by simp [Heap.get]; done) ?_)))
  intro _ _
  dsimp only
  have hsl : (e1 1 a.2.2.length s).1.length < 2 ^ 44 + 1 := by rw [e1_len]; omega
  have hf : eNs a.2.2 ((e1 1 a.2.2.length s).1, (e1 1 a.2.2.length s).2 || decide (32 < a.2.2.length)) = eL a.2.2 s := rfl
  generalize (e1 1 a.2.2.length s).1 = o1 at *
  generalize ((e1 1 a.2.2.length s).2 || decide (32 < a.2.2.length)) = bad1 at *
  refine Sat.less (Sat.loop (γ := Nat × Out × Nat) (fun g => ([(5, I g.1), (4, .ptr 3 0 0 0), (0, .ptr 0 0 0 0), (1, .ptr 1 0 0 27)], [(0, CaE 5 g.2.2 g.2.1), (3, .own [I a.2.2.length] 3), (5, RowB g.2.2 g.2.1), (1, .own (ec a) 37)], 6)) (fun g => a.2.2.length - g.1) (fun g => g.1 ≤ a.2.2.length ∧ g.2.1.1.length ≤ g.2.2 ∧ g.2.1.1.length < 2 ^ 44 + 1 + g.1 ∧ eNs (a.2.2.drop g.1) g.2.1 = eL a.2.2 s) ?round (0, (o1, bad1), cap1) ⟨Nat.zero_le _, hc1, by simpa using hsl, hf⟩) (by repeat' (first | exact EnvSub.nil _ | exact HeapSub.nil _ | refine EnvSub.cons rfl ?_ | refine HeapSub.cons rfl ?_ | (refine EnvSub.cons (by simp [Env.get]; done) ?_) | (refine HeapSub.cons (by simp [Heap.get]; done) ?_))) (by repeat' (first | exact EnvSub.nil _ | exact HeapSub.nil _ | refine EnvSub.cons rfl ?_ | refine HeapSub.cons rfl ?_ | (refine EnvSub.cons (by simp [Env.get]; done) ?_) | (refine HeapSub.cons (by simp [Heap.get]; done) ?_)))
  case round =>
    rintro ⟨k, ⟨o2, b2⟩, cp⟩ ⟨hk, hcp, hsl, hl⟩ ih
    dsimp only at hk hcp hl hsl ih ⊢
    have hend : k = a.2.2.length ∨ b2 = true → eL a.2.2 s = (o2, b2) := by
      rintro (rfl | h)
      · rw [← hl]; simp [eNs]
      · rw [← hl, eNs_bad _ _ h]
    refine hκ.run 300 ?_
    simp (disch := omega) only [push_cast, simprocAttr]
    by_cases hkl : k < a.2.2.length
    · have q1 : ((k : Int) < a.2.2.length) = True := by first | (simp only [eq_iff_iff, iff_true]; first | assumption | omega) | (simp; omega)
      simp (disch := omega) only [push_cast, simprocAttr, q1]
      cases b2
      · refine Does.inl hκ.hP hκ.hgl Try.ok47 (nt := 22) (res := [.tmp 2]) Try.mixed Try.func47 rfl rfl rfl rfl fun κ_hst x_hst hst => hst.run 300 ?_
        simp (disch := omega) only [push_cast, simprocAttr]
        refine hst.ret _ _ _ _ _ _ trivial rfl ?_
        refine hκ.run 300 ?_
        simp (disch := omega) only [push_cast, simprocAttr]
        have gk : (List.map (eI .i64) a.2.2).getD k [] = [I (a.2.2.getD k default)] := getD_map _ _ _ hkl
        have hz := fun cap h => ih (k + 1, e1 1 (a.2.2.getD k default) (o2, false), cap) ⟨by dsimp only; omega, h, by rw [e1_len]; dsimp only; omega, by rw [← hl, eNs_step _ hkl rfl]⟩ (by dsimp only; omega)
        have cec : cut (ec a) 27 1 = some [Is a.2.2] := rfl
        simp (disch := omega) only [push_cast, simprocAttr, gk, cec]
        (repeat (refine ⟨by first | omega | (refine ⟨?_, ?_⟩ <;> omega) | trivial | (simp; done) | decide +kernel, fun _ => ?_⟩))
        refine (Does.E hκ.hP hκ.hgl _ (fun i => if i = 1 then 6 else if i = 2 then 5 else if i = 3 then 7 else i) [0, 6, 5, 7] _ _ (small1E [I (a.2.2.getD k default)] _ 0 (by simp [SV.bnd, SV.bndL]) (a.2.2.getD k default) rfl (o2, false) cp (by dsimp only; omega) hcp) (by rfl) ⟨trivial, by simp [SV.bnd, SV.bndL], by simp [SV.bnd, SV.bndL]⟩ (by first | assumption | exact ec_bnd _ _ | (simp [SV.bnd, SV.bndL]; done)) (by decide) (by intro i hi; (repeat (first | omega | (dsimp only [id]; omega) | split))) (by intro i j; (repeat (first | omega | (dsimp only [id]; omega) | split))) (by repeat' (first | exact HeapIn.nil | refine HeapIn.cons (by decide) (by first | exact Blk.bnd_own0 (by assumption) | exact ec_bnd _ _ | (simp [Blk.bnd, SV.bnd, SV.bndL]; done)) (by simp) (by first | rfl | (rw [Blk.ren_own0 (by assumption)]; rfl)) ?_)) ?_)
        intro cap2 hc2
        simp only [renH, Blk.ren, SV.renL, SV.ren, tau, without, List.mem_singleton, List.mem_cons, List.not_mem_nil, or_false, or_true, true_or, Nat.reduceEqDiff, Nat.reduceLT, Nat.zero_lt_one, Nat.one_ne_zero, Nat.zero_ne_one, Nat.zero_lt_succ, ↓reduceIte, List.cons_append, List.nil_append, List.append_nil]
        refine hκ.run 300 ?_
        simp (disch := omega) only [push_cast, simprocAttr, gk, cec]
        have hy := hz cap2 hc2
        dsimp only at hy
        refine Sat.via (fun i => if i = 5 then 8 else i) (hy) (by intro i j; (repeat (first | omega | split))) (by repeat' (first | exact EnvVia.nil | refine EnvVia.cons (by first | trivial | decide | (simp [SV.bnd, SV.bndL]; done)) rfl ?_)) (by repeat' (first | exact HeapVia.nil | refine HeapVia.cons (by decide) (by first | trivial | exact Blk.bnd_own0 (by assumption) | (simp [Blk.bnd, SV.bnd, SV.bndL]; done) | exact bndL_mapV _ _ _ | exact LR.bnd (by rw [l2]; simp [bndE, SV.bnd, SV.bndL]) (by rw [l6]; decide)) (by first | (rw [Blk.ren_own0 (by assumption)]; rfl) | rfl | (simp only [Blk.ren, renL_mapV]; rfl) | (rw [LR.ren (by rw [l2] <;> rfl) (by rw [l6] <;> rfl)]; rfl)) ?_)) ⟨by have := hκ.hm; (try dsimp only at this); (first | done | omega), fun i hi => by have := hκ.hm; (try dsimp only at this); (first | omega | (dsimp only; omega) | (rw [if_neg (by omega)]))⟩ ⟨by simp, rfl⟩
      · refine Does.inl hκ.hP hκ.hgl Try.ok47 (nt := 22) (res := [.tmp 2]) Try.mixed Try.func47 rfl rfl rfl rfl fun κ_hst x_hst hst => hst.run 300 ?_
        simp (disch := omega) only [push_cast, simprocAttr]
        refine hst.ret _ _ _ _ _ _ trivial rfl ?_
        refine hκ.run 300 ?_
        simp (disch := omega) only [push_cast, simprocAttr]
        refine hκ.fin _ _ _ _ _ trivial rfl ?_
        rw [hend (Or.inr rfl)]
        exact Post.E (j := 5) (ec_bnd _ _) trivial (by decide) (by decide)  hcp (by first | rfl | (simp [dropL, Heap.get ]; done)) (by first | rfl | (simp [dropL, Heap.get, ec ]; done)) (by first | rfl | (simp [dropL, Heap.get ]; done))
    · have q1 : ((k : Int) < a.2.2.length) = False := by first | (simp only [eq_iff_iff, iff_false]; first | assumption | omega) | (simp; omega)
      simp (disch := omega) only [push_cast, simprocAttr, q1]
      refine hκ.fin _ _ _ _ _ trivial rfl ?_
      rw [hend (Or.inl (by omega))]
      exact Post.E (j := 5) (ec_bnd _ _) trivial (by decide) (by decide)  hcp (by first | rfl | (simp [dropL, Heap.get ]; done)) (by first | rfl | (simp [dropL, Heap.get, ec ]; done)) (by first | rfl | (simp [dropL, Heap.get ]; done))
end Go.Proofs.Ytmieikflcolbaaa

/- What each kind of calls and changes carries: to bytes. No condition. Printed by gen.py. -/
import Derived.Test.YtmieikflcolbaaaEd
namespace Go.Proofs.Ytmieikflcolbaaa
open Go Go.Sy
set_option maxRecDepth 100000
set_option linter.unusedSimpArgs false
set_option linter.unusedVariables false
theorem createE (a : Evt) (s : Out) (cap : Nat) (hs : s.1.length < 2 ^ 40) (hcap : s.1.length ≤ cap) :
    Con Try.prog gl0 (fnv 60) [.ptr 0 0 0 0, .ptr 1 0 0 1] 3 [(0, CaE 2 cap s), (1, .own (ec a) 37), (2, RowB cap s)] (RetE (eLs a s [100, 119, 99, 113]) (ec a) 37 3 vd) := by
  have len_ok := hs
  refine Con.of Try.ok60 (nt := 30) (res := []) Try.mixed Try.func60 rfl rfl rfl rfl fun κ xc hκ => hκ.run 300 ?_
  simp (disch := omega) only [push_cast, simprocAttr]
  refine (Does.E hκ.hP hκ.hgl _ (fun i => if i = 2 then 2 else if i = 3 then 3 else i) [0, 1, 2, 3] _ _ (small1E (ec a) _ 9 (ec_bnd _ _) (a.1 9) rfl _ cap (by have := len_ok; first | omega | (simp only [e1_len]; omega)) hcap) (by rfl) ⟨trivial, by simp [SV.bnd, SV.bndL], by simp [SV.bnd, SV.bndL]⟩ (by first | assumption | exact ec_bnd _ _ | (simp [SV.bnd, SV.bndL]; done)) (by decide) (by intro i hi; (repeat (first | omega | (dsimp only [id]; omega) | split))) (by intro i j; (repeat (first | omega | (dsimp only [id]; omega) | split))) (by repeat' (first | exact HeapIn.nil | refine HeapIn.cons (by decide) (by first | exact Blk.bnd_own0 (by assumption) | exact ec_bnd _ _ | (simp [Blk.bnd, SV.bnd, SV.bndL]; done)) (by simp) (by first | rfl | (rw [Blk.ren_own0 (by assumption)]; rfl)) ?_)) ?_)
  intro cap1 hc1
  simp only [renH, Blk.ren, SV.renL, SV.ren, tau, without, List.mem_singleton, List.mem_cons, List.not_mem_nil, or_false, or_true, true_or, Nat.reduceEqDiff, Nat.reduceLT, Nat.zero_lt_one, Nat.one_ne_zero, Nat.zero_ne_one, Nat.zero_lt_succ, ↓reduceIte, List.cons_append, List.nil_append, List.append_nil, id]
  refine hκ.run 300 ?_
  simp (disch := omega) only [push_cast, simprocAttr]
  refine (Does.E hκ.hP hκ.hgl _ (fun i => if i = 2 then 4 else i) [0, 1, 4] _ _ (oneBE (ec a) _ 10 (ec_bnd _ _) (a.1 10) rfl _ cap1 (by have := len_ok; first | omega | (simp only [e1_len]; omega)) hc1) (by rfl) ⟨trivial, by simp [SV.bnd, SV.bndL], by simp [SV.bnd, SV.bndL]⟩ (by first | assumption | exact ec_bnd _ _ | (simp [SV.bnd, SV.bndL]; done)) (by decide) (by intro i hi; (repeat (first | omega | (dsimp only [id]; omega) | split))) (by intro i j; (repeat (first | omega | (dsimp only [id]; omega) | split))) (by repeat' (first | exact HeapIn.nil | refine HeapIn.cons (by decide) (by first | exact Blk.bnd_own0 (by assumption) | exact ec_bnd _ _ | (simp [Blk.bnd, SV.bnd, SV.bndL]; done)) (by simp) (by first | rfl | (rw [Blk.ren_own0 (by assumption)]; rfl)) ?_)) ?_)
  intro cap2 hc2
  simp only [renH, Blk.ren, SV.renL, SV.ren, tau, without, List.mem_singleton, List.mem_cons, List.not_mem_nil, or_false, or_true, true_or, Nat.reduceEqDiff, Nat.reduceLT, Nat.zero_lt_one, Nat.one_ne_zero, Nat.zero_ne_one, Nat.zero_lt_succ, ↓reduceIte, List.cons_append, List.nil_append, List.append_nil, id]
  refine hκ.run 300 ?_
  simp (disch := omega) only [push_cast, simprocAttr]
  refine (Does.E hκ.hP hκ.hgl _ (fun i => if i = 2 then 5 else i) [0, 1, 5] _ _ (oneBE (ec a) _ 11 (ec_bnd _ _) (a.1 11) rfl _ cap2 (by have := len_ok; first | omega | (simp only [e1_len]; omega)) hc2) (by rfl) ⟨trivial, by simp [SV.bnd, SV.bndL], by simp [SV.bnd, SV.bndL]⟩ (by first | assumption | exact ec_bnd _ _ | (simp [SV.bnd, SV.bndL]; done)) (by decide) (by intro i hi; (repeat (first | omega | (dsimp only [id]; omega) | split))) (by intro i j; (repeat (first | omega | (dsimp only [id]; omega) | split))) (by repeat' (first | exact HeapIn.nil | refine HeapIn.cons (by decide) (by first | exact Blk.bnd_own0 (by assumption) | exact ec_bnd _ _ | (simp [Blk.bnd, SV.bnd, SV.bndL]; done)) (by simp) (by first | rfl | (rw [Blk.ren_own0 (by assumption)]; rfl)) ?_)) ?_)
  intro cap3 hc3
  simp only [renH, Blk.ren, SV.renL, SV.ren, tau, without, List.mem_singleton, List.mem_cons, List.not_mem_nil, or_false, or_true, true_or, Nat.reduceEqDiff, Nat.reduceLT, Nat.zero_lt_one, Nat.one_ne_zero, Nat.zero_ne_one, Nat.zero_lt_succ, ↓reduceIte, List.cons_append, List.nil_append, List.append_nil, id]
  refine hκ.run 300 ?_
  simp (disch := omega) only [push_cast, simprocAttr]
  refine (Does.E hκ.hP hκ.hgl _ (fun i => if i = 2 then 6 else if i = 3 then 7 else i) [0, 1, 6, 7] _ _ (small1E (ec a) _ 12 (ec_bnd _ _) (a.1 12) rfl _ cap3 (by have := len_ok; first | omega | (simp only [e1_len]; omega)) hc3) (by rfl) ⟨trivial, by simp [SV.bnd, SV.bndL], by simp [SV.bnd, SV.bndL]⟩ (by first | assumption | exact ec_bnd _ _ | (simp [SV.bnd, SV.bndL]; done)) (by decide) (by intro i hi; (repeat (first | omega | (dsimp only [id]; omega) | split))) (by intro i j; (repeat (first | omega | (dsimp only [id]; omega) | split))) (by repeat' (first | exact HeapIn.nil | refine HeapIn.cons (by decide) (by first | exact Blk.bnd_own0 (by assumption) | exact ec_bnd _ _ | (simp [Blk.bnd, SV.bnd, SV.bndL]; done)) (by simp) (by first | rfl | (rw [Blk.ren_own0 (by assumption)]; rfl)) ?_)) ?_)
  intro cap4 hc4
  simp only [renH, Blk.ren, SV.renL, SV.ren, tau, without, List.mem_singleton, List.mem_cons, List.not_mem_nil, or_false, or_true, true_or, Nat.reduceEqDiff, Nat.reduceLT, Nat.zero_lt_one, Nat.one_ne_zero, Nat.zero_ne_one, Nat.zero_lt_succ, ↓reduceIte, List.cons_append, List.nil_append, List.append_nil, id]
  refine hκ.run 300 ?_
  simp (disch := omega) only [push_cast, simprocAttr]
  refine hκ.fin _ _ _ _ _ trivial rfl ?_
  exact Post.E (j := 8) (ec_bnd _ _) trivial (by decide) (by decide)  hc4 (by first | rfl | (simp [dropL, Heap.get ]; done)) (by first | rfl | (simp [dropL, Heap.get, ec ]; done)) (by first | rfl | (simp [dropL, Heap.get ]; done))
theorem destroyE (a : Evt) (s : Out) (cap : Nat) (hs : s.1.length < 2 ^ 40) (hcap : s.1.length ≤ cap) :
    Con Try.prog gl0 (fnv 61) [.ptr 0 0 0 0, .ptr 1 0 0 1] 3 [(0, CaE 2 cap s), (1, .own (ec a) 37), (2, RowB cap s)] (RetE (eLs a s [100]) (ec a) 37 3 vd) := by
  have len_ok := hs
  refine Con.of Try.ok61 (nt := 11) (res := []) Try.mixed Try.func61 rfl rfl rfl rfl fun κ xc hκ => hκ.run 300 ?_
  simp (disch := omega) only [push_cast, simprocAttr]
  refine (Does.E hκ.hP hκ.hgl _ (fun i => if i = 2 then 2 else if i = 3 then 3 else i) [0, 1, 2, 3] _ _ (small1E (ec a) _ 9 (ec_bnd _ _) (a.1 9) rfl _ cap (by have := len_ok; first | omega | (simp only [e1_len]; omega)) hcap) (by rfl) ⟨trivial, by simp [SV.bnd, SV.bndL], by simp [SV.bnd, SV.bndL]⟩ (by first | assumption | exact ec_bnd _ _ | (simp [SV.bnd, SV.bndL]; done)) (by decide) (by intro i hi; (repeat (first | omega | (dsimp only [id]; omega) | split))) (by intro i j; (repeat (first | omega | (dsimp only [id]; omega) | split))) (by repeat' (first | exact HeapIn.nil | refine HeapIn.cons (by decide) (by first | exact Blk.bnd_own0 (by assumption) | exact ec_bnd _ _ | (simp [Blk.bnd, SV.bnd, SV.bndL]; done)) (by simp) (by first | rfl | (rw [Blk.ren_own0 (by assumption)]; rfl)) ?_)) ?_)
  intro cap1 hc1
  simp only [renH, Blk.ren, SV.renL, SV.ren, tau, without, List.mem_singleton, List.mem_cons, List.not_mem_nil, or_false, or_true, true_or, Nat.reduceEqDiff, Nat.reduceLT, Nat.zero_lt_one, Nat.one_ne_zero, Nat.zero_ne_one, Nat.zero_lt_succ, ↓reduceIte, List.cons_append, List.nil_append, List.append_nil, id]
  refine hκ.run 300 ?_
  simp (disch := omega) only [push_cast, simprocAttr]
  refine hκ.fin _ _ _ _ _ trivial rfl ?_
  exact Post.E (j := 4) (ec_bnd _ _) trivial (by decide) (by decide)  hc1 (by first | rfl | (simp [dropL, Heap.get ]; done)) (by first | rfl | (simp [dropL, Heap.get, ec ]; done)) (by first | rfl | (simp [dropL, Heap.get ]; done))
theorem addE (a : Evt) (s : Out) (cap : Nat) (hs : s.1.length < 2 ^ 40) (hcap : s.1.length ≤ cap) :
    Con Try.prog gl0 (fnv 62) [.ptr 0 0 0 0, .ptr 1 0 0 1] 3 [(0, CaE 2 cap s), (1, .own (ec a) 37), (2, RowB cap s)] (RetE (eLs a s [100, 109]) (ec a) 37 3 vd) := by
  have len_ok := hs
  refine Con.of Try.ok62 (nt := 16) (res := []) Try.mixed Try.func62 rfl rfl rfl rfl fun κ xc hκ => hκ.run 300 ?_
  simp (disch := omega) only [push_cast, simprocAttr]
  refine (Does.E hκ.hP hκ.hgl _ (fun i => if i = 2 then 2 else if i = 3 then 3 else i) [0, 1, 2, 3] _ _ (small1E (ec a) _ 9 (ec_bnd _ _) (a.1 9) rfl _ cap (by have := len_ok; first | omega | (simp only [e1_len]; omega)) hcap) (by rfl) ⟨trivial, by simp [SV.bnd, SV.bndL], by simp [SV.bnd, SV.bndL]⟩ (by first | assumption | exact ec_bnd _ _ | (simp [SV.bnd, SV.bndL]; done)) (by decide) (by intro i hi; (repeat (first | omega | (dsimp only [id]; omega) | split))) (by intro i j; (repeat (first | omega | (dsimp only [id]; omega) | split))) (by repeat' (first | exact HeapIn.nil | refine HeapIn.cons (by decide) (by first | exact Blk.bnd_own0 (by assumption) | exact ec_bnd _ _ | (simp [Blk.bnd, SV.bnd, SV.bndL]; done)) (by simp) (by first | rfl | (rw [Blk.ren_own0 (by assumption)]; rfl)) ?_)) ?_)
  intro cap1 hc1
  simp only [renH, Blk.ren, SV.renL, SV.ren, tau, without, List.mem_singleton, List.mem_cons, List.not_mem_nil, or_false, or_true, true_or, Nat.reduceEqDiff, Nat.reduceLT, Nat.zero_lt_one, Nat.one_ne_zero, Nat.zero_ne_one, Nat.zero_lt_succ, ↓reduceIte, List.cons_append, List.nil_append, List.append_nil, id]
  refine hκ.run 300 ?_
  simp (disch := omega) only [push_cast, simprocAttr]
  refine (Does.E hκ.hP hκ.hgl _ (fun i => if i = 2 then 4 else i) [0, 1, 4] _ _ (maskCE a _ cap1 (by have := len_ok; first | omega | (simp only [e1_len]; omega)) hc1) (by rfl) ⟨trivial, by simp [SV.bnd, SV.bndL], by simp [SV.bnd, SV.bndL]⟩ (by first | assumption | exact ec_bnd _ _ | (simp [SV.bnd, SV.bndL]; done)) (by decide) (by intro i hi; (repeat (first | omega | (dsimp only [id]; omega) | split))) (by intro i j; (repeat (first | omega | (dsimp only [id]; omega) | split))) (by repeat' (first | exact HeapIn.nil | refine HeapIn.cons (by decide) (by first | exact Blk.bnd_own0 (by assumption) | exact ec_bnd _ _ | (simp [Blk.bnd, SV.bnd, SV.bndL]; done)) (by simp) (by first | rfl | (rw [Blk.ren_own0 (by assumption)]; rfl)) ?_)) ?_)
  intro cap2 hc2
  simp only [renH, Blk.ren, SV.renL, SV.ren, tau, without, List.mem_singleton, List.mem_cons, List.not_mem_nil, or_false, or_true, true_or, Nat.reduceEqDiff, Nat.reduceLT, Nat.zero_lt_one, Nat.one_ne_zero, Nat.zero_ne_one, Nat.zero_lt_succ, ↓reduceIte, List.cons_append, List.nil_append, List.append_nil, id]
  refine hκ.run 300 ?_
  simp (disch := omega) only [push_cast, simprocAttr]
  refine hκ.fin _ _ _ _ _ trivial rfl ?_
  exact Post.E (j := 5) (ec_bnd _ _) trivial (by decide) (by decide)  hc2 (by first | rfl | (simp [dropL, Heap.get ]; done)) (by first | rfl | (simp [dropL, Heap.get, ec ]; done)) (by first | rfl | (simp [dropL, Heap.get ]; done))
theorem pollE (a : Evt) (h6 : a.2.1.length < 2 ^ 40) (s : Out) (cap : Nat) (hs : s.1.length < 2 ^ 40) (hcap : s.1.length ≤ cap) :
    Con Try.prog gl0 (fnv 63) [.ptr 0 0 0 0, .ptr 1 0 0 1] 3 [(0, CaE 2 cap s), (1, .own (ec a) 37), (2, RowB cap s)] (RetE (eLs a s [118, 110, 97]) (ec a) 37 3 vd) := by
  have len_ok := hs
  have hll := eL_len a.2.1 (e1 1 (a.1 2) s)
  rw [e1_len] at hll
  refine Con.of Try.ok63 (nt := 20) (res := []) Try.mixed Try.func63 rfl rfl rfl rfl fun κ xc hκ => hκ.run 300 ?_
  simp (disch := omega) only [push_cast, simprocAttr]
  refine (Does.E hκ.hP hκ.hgl _ (fun i => if i = 2 then 2 else if i = 3 then 3 else i) [0, 1, 2, 3] _ _ (small1E (ec a) _ 2 (ec_bnd _ _) (a.1 2) rfl _ cap (by have := len_ok; first | omega | (simp only [e1_len]; omega)) hcap) (by rfl) ⟨trivial, by simp [SV.bnd, SV.bndL], by simp [SV.bnd, SV.bndL]⟩ (by first | assumption | exact ec_bnd _ _ | (simp [SV.bnd, SV.bndL]; done)) (by decide) (by intro i hi; (repeat (first | omega | (dsimp only [id]; omega) | split))) (by intro i j; (repeat (first | omega | (dsimp only [id]; omega) | split))) (by repeat' (first | exact HeapIn.nil | refine HeapIn.cons (by decide) (by first | exact Blk.bnd_own0 (by assumption) | exact ec_bnd _ _ | (simp [Blk.bnd, SV.bnd, SV.bndL]; done)) (by simp) (by first | rfl | (rw [Blk.ren_own0 (by assumption)]; rfl)) ?_)) ?_)
  intro cap1 hc1
  simp only [renH, Blk.ren, SV.renL, SV.ren, tau, without, List.mem_singleton, List.mem_cons, List.not_mem_nil, or_false, or_true, true_or, Nat.reduceEqDiff, Nat.reduceLT, Nat.zero_lt_one, Nat.one_ne_zero, Nat.zero_ne_one, Nat.zero_lt_succ, ↓reduceIte, List.cons_append, List.nil_append, List.append_nil, id]
  refine hκ.run 300 ?_
  simp (disch := omega) only [push_cast, simprocAttr]
  refine (Does.E hκ.hP hκ.hgl _ (fun i => if i = 2 then 4 else i) [0, 1, 4] _ _ (listCE a h6 _ cap1 (by have := len_ok; first | omega | (simp only [e1_len]; omega)) hc1) (by rfl) ⟨trivial, by simp [SV.bnd, SV.bndL], by simp [SV.bnd, SV.bndL]⟩ (by first | assumption | exact ec_bnd _ _ | (simp [SV.bnd, SV.bndL]; done)) (by decide) (by intro i hi; (repeat (first | omega | (dsimp only [id]; omega) | split))) (by intro i j; (repeat (first | omega | (dsimp only [id]; omega) | split))) (by repeat' (first | exact HeapIn.nil | refine HeapIn.cons (by decide) (by first | exact Blk.bnd_own0 (by assumption) | exact ec_bnd _ _ | (simp [Blk.bnd, SV.bnd, SV.bndL]; done)) (by simp) (by first | rfl | (rw [Blk.ren_own0 (by assumption)]; rfl)) ?_)) ?_)
  intro cap2 hc2
  simp only [renH, Blk.ren, SV.renL, SV.ren, tau, without, List.mem_singleton, List.mem_cons, List.not_mem_nil, or_false, or_true, true_or, Nat.reduceEqDiff, Nat.reduceLT, Nat.zero_lt_one, Nat.one_ne_zero, Nat.zero_ne_one, Nat.zero_lt_succ, ↓reduceIte, List.cons_append, List.nil_append, List.append_nil, id]
  refine hκ.run 300 ?_
  simp (disch := omega) only [push_cast, simprocAttr]
  refine (Does.E hκ.hP hκ.hgl _ (fun i => if i = 2 then 5 else i) [0, 1, 5] _ _ (oneDE (ec a) _ 7 (ec_bnd _ _) (a.1 7) rfl _ cap2 (by have := len_ok; first | omega | (simp only [e1_len]; omega)) hc2) (by rfl) ⟨trivial, by simp [SV.bnd, SV.bndL], by simp [SV.bnd, SV.bndL]⟩ (by first | assumption | exact ec_bnd _ _ | (simp [SV.bnd, SV.bndL]; done)) (by decide) (by intro i hi; (repeat (first | omega | (dsimp only [id]; omega) | split))) (by intro i j; (repeat (first | omega | (dsimp only [id]; omega) | split))) (by repeat' (first | exact HeapIn.nil | refine HeapIn.cons (by decide) (by first | exact Blk.bnd_own0 (by assumption) | exact ec_bnd _ _ | (simp [Blk.bnd, SV.bnd, SV.bndL]; done)) (by simp) (by first | rfl | (rw [Blk.ren_own0 (by assumption)]; rfl)) ?_)) ?_)
  intro cap3 hc3
  simp only [renH, Blk.ren, SV.renL, SV.ren, tau, without, List.mem_singleton, List.mem_cons, List.not_mem_nil, or_false, or_true, true_or, Nat.reduceEqDiff, Nat.reduceLT, Nat.zero_lt_one, Nat.one_ne_zero, Nat.zero_ne_one, Nat.zero_lt_succ, ↓reduceIte, List.cons_append, List.nil_append, List.append_nil, id]
  refine hκ.run 300 ?_
  simp (disch := omega) only [push_cast, simprocAttr]
  refine hκ.fin _ _ _ _ _ trivial rfl ?_
  exact Post.E (j := 6) (ec_bnd _ _) trivial (by decide) (by decide)  hc3 (by first | rfl | (simp [dropL, Heap.get ]; done)) (by first | rfl | (simp [dropL, Heap.get, ec ]; done)) (by first | rfl | (simp [dropL, Heap.get ]; done))
theorem linkE (a : Evt) (s : Out) (cap : Nat) (hs : s.1.length < 2 ^ 40) (hcap : s.1.length ≤ cap) :
    Con Try.prog gl0 (fnv 64) [.ptr 0 0 0 0, .ptr 1 0 0 1] 3 [(0, CaE 2 cap s), (1, .own (ec a) 37), (2, RowB cap s)] (RetE (eLs a s [112, 111]) (ec a) 37 3 vd) := by
  have len_ok := hs
  refine Con.of Try.ok64 (nt := 13) (res := []) Try.mixed Try.func64 rfl rfl rfl rfl fun κ xc hκ => hκ.run 300 ?_
  simp (disch := omega) only [push_cast, simprocAttr]
  refine hκ.draw (.q 0 (.q 1 (.q 2 (.q 3 (.q 4 (.q 5 (.q 6 (.l 7 [] (.l 8 [] (.fin)))))))))) [0, 1, 2, 3, 4, 5, 6] (by kernel_rfl) (by kernel_rfl) rfl ?_
  simp (disch := omega) only [push_cast, simprocAttr]
  refine DCall.of (Does.E hκ.hP hκ.hgl _ (fun i => if i = 2 then 2 else if i = 3 then 3 else i) [0, 1, 2, 3] _ _ (small2E (ec a) _ 3 4 (ec_bnd _ _) (a.1 3) (a.1 4) rfl rfl _ cap (by have := len_ok; first | omega | (simp only [e1_len]; omega)) hcap) (by rfl) ⟨trivial, by simp [SV.bnd, SV.bndL], by simp [SV.bnd, SV.bndL]⟩ (by first | assumption | exact ec_bnd _ _ | (simp [SV.bnd, SV.bndL]; done)) (by decide) (by intro i hi; (repeat (first | omega | (dsimp only [id]; omega) | split))) (by intro i j; (repeat (first | omega | (dsimp only [id]; omega) | split))) (by repeat' (first | exact HeapIn.nil | refine HeapIn.cons (by decide) (by first | exact Blk.bnd_own0 (by assumption) | exact ec_bnd _ _ | (simp [Blk.bnd, SV.bnd, SV.bndL]; done)) (by simp) (by first | rfl | (rw [Blk.ren_own0 (by assumption)]; rfl)) ?_)) ?_)
  intro cap1 hc1
  simp only [renH, Blk.ren, SV.renL, SV.ren, tau, without, List.mem_singleton, List.mem_cons, List.not_mem_nil, or_false, or_true, true_or, Nat.reduceEqDiff, Nat.reduceLT, Nat.zero_lt_one, Nat.one_ne_zero, Nat.zero_ne_one, Nat.zero_lt_succ, ↓reduceIte, List.cons_append, List.nil_append, List.append_nil, id]
  simp (disch := omega) only [push_cast, simprocAttr]
  refine hκ.fin _ _ _ _ _ trivial rfl ?_
  exact Post.E (j := 4) (ec_bnd _ _) trivial (by decide) (by decide)  hc1 (by first | rfl | (simp [dropL, Heap.get ]; done)) (by first | rfl | (simp [dropL, Heap.get, ec ]; done)) (by first | rfl | (simp [dropL, Heap.get ]; done))
theorem masksE (a : Evt) (h5 : a.1 5 = 0 ∨ a.1 5 = 1) (s : Out) (cap : Nat) (hs : s.1.length < 2 ^ 40) (hcap : s.1.length ≤ cap) :
    Con Try.prog gl0 (fnv 65) [.ptr 0 0 0 0, .ptr 1 0 0 1] 3 [(0, CaE 2 cap s), (1, .own (ec a) 37), (2, RowB cap s)] (RetE (eLs a s [112, 102]) (ec a) 37 3 vd) := by
  have len_ok := hs
  refine Con.of Try.ok65 (nt := 15) (res := []) Try.mixed Try.func65 rfl rfl rfl rfl fun κ xc hκ => hκ.run 300 ?_
  simp (disch := omega) only [push_cast, simprocAttr]
  refine (Does.E hκ.hP hκ.hgl _ (fun i => if i = 2 then 2 else if i = 3 then 3 else i) [0, 1, 2, 3] _ _ (small1E (ec a) _ 3 (ec_bnd _ _) (a.1 3) rfl _ cap (by have := len_ok; first | omega | (simp only [e1_len]; omega)) hcap) (by rfl) ⟨trivial, by simp [SV.bnd, SV.bndL], by simp [SV.bnd, SV.bndL]⟩ (by first | assumption | exact ec_bnd _ _ | (simp [SV.bnd, SV.bndL]; done)) (by decide) (by intro i hi; (repeat (first | omega | (dsimp only [id]; omega) | split))) (by intro i j; (repeat (first | omega | (dsimp only [id]; omega) | split))) (by repeat' (first | exact HeapIn.nil | refine HeapIn.cons (by decide) (by first | exact Blk.bnd_own0 (by assumption) | exact ec_bnd _ _ | (simp [Blk.bnd, SV.bnd, SV.bndL]; done)) (by simp) (by first | rfl | (rw [Blk.ren_own0 (by assumption)]; rfl)) ?_)) ?_)
  intro cap1 hc1
  simp only [renH, Blk.ren, SV.renL, SV.ren, tau, without, List.mem_singleton, List.mem_cons, List.not_mem_nil, or_false, or_true, true_or, Nat.reduceEqDiff, Nat.reduceLT, Nat.zero_lt_one, Nat.one_ne_zero, Nat.zero_ne_one, Nat.zero_lt_succ, ↓reduceIte, List.cons_append, List.nil_append, List.append_nil, id]
  refine hκ.run 300 ?_
  simp (disch := omega) only [push_cast, simprocAttr]
  refine (Does.E hκ.hP hκ.hgl _ (fun i => if i = 2 then 4 else i) [0, 1, 4] _ _ (flagE a h5 _ cap1 (by have := len_ok; first | omega | (simp only [e1_len]; omega)) hc1) (by rfl) ⟨trivial, by simp [SV.bnd, SV.bndL], by simp [SV.bnd, SV.bndL]⟩ (by first | assumption | exact ec_bnd _ _ | (simp [SV.bnd, SV.bndL]; done)) (by decide) (by intro i hi; (repeat (first | omega | (dsimp only [id]; omega) | split))) (by intro i j; (repeat (first | omega | (dsimp only [id]; omega) | split))) (by repeat' (first | exact HeapIn.nil | refine HeapIn.cons (by decide) (by first | exact Blk.bnd_own0 (by assumption) | exact ec_bnd _ _ | (simp [Blk.bnd, SV.bnd, SV.bndL]; done)) (by simp) (by first | rfl | (rw [Blk.ren_own0 (by assumption)]; rfl)) ?_)) ?_)
  intro cap2 hc2
  simp only [renH, Blk.ren, SV.renL, SV.ren, tau, without, List.mem_singleton, List.mem_cons, List.not_mem_nil, or_false, or_true, true_or, Nat.reduceEqDiff, Nat.reduceLT, Nat.zero_lt_one, Nat.one_ne_zero, Nat.zero_ne_one, Nat.zero_lt_succ, ↓reduceIte, List.cons_append, List.nil_append, List.append_nil, id]
  refine hκ.run 300 ?_
  simp (disch := omega) only [push_cast, simprocAttr]
  refine hκ.fin _ _ _ _ _ trivial rfl ?_
  exact Post.E (j := 5) (ec_bnd _ _) trivial (by decide) (by decide)  hc2 (by first | rfl | (simp [dropL, Heap.get ]; done)) (by first | rfl | (simp [dropL, Heap.get, ec ]; done)) (by first | rfl | (simp [dropL, Heap.get ]; done))
theorem bindE (a : Evt) (s : Out) (cap : Nat) (hs : s.1.length < 2 ^ 40) (hcap : s.1.length ≤ cap) :
    Con Try.prog gl0 (fnv 66) [.ptr 0 0 0 0, .ptr 1 0 0 1] 3 [(0, CaE 2 cap s), (1, .own (ec a) 37), (2, RowB cap s)] (RetE (eLs a s [112, 118]) (ec a) 37 3 vd) := by
  have len_ok := hs
  refine Con.of Try.ok66 (nt := 13) (res := []) Try.mixed Try.func66 rfl rfl rfl rfl fun κ xc hκ => hκ.run 300 ?_
  simp (disch := omega) only [push_cast, simprocAttr]
  refine hκ.draw (.q 0 (.q 1 (.q 2 (.q 3 (.q 4 (.q 5 (.q 6 (.l 7 [] (.l 8 [] (.fin)))))))))) [0, 1, 2, 3, 4, 5, 6] (by kernel_rfl) (by kernel_rfl) rfl ?_
  simp (disch := omega) only [push_cast, simprocAttr]
  refine DCall.of (Does.E hκ.hP hκ.hgl _ (fun i => if i = 2 then 2 else if i = 3 then 3 else i) [0, 1, 2, 3] _ _ (small2E (ec a) _ 3 2 (ec_bnd _ _) (a.1 3) (a.1 2) rfl rfl _ cap (by have := len_ok; first | omega | (simp only [e1_len]; omega)) hcap) (by rfl) ⟨trivial, by simp [SV.bnd, SV.bndL], by simp [SV.bnd, SV.bndL]⟩ (by first | assumption | exact ec_bnd _ _ | (simp [SV.bnd, SV.bndL]; done)) (by decide) (by intro i hi; (repeat (first | omega | (dsimp only [id]; omega) | split))) (by intro i j; (repeat (first | omega | (dsimp only [id]; omega) | split))) (by repeat' (first | exact HeapIn.nil | refine HeapIn.cons (by decide) (by first | exact Blk.bnd_own0 (by assumption) | exact ec_bnd _ _ | (simp [Blk.bnd, SV.bnd, SV.bndL]; done)) (by simp) (by first | rfl | (rw [Blk.ren_own0 (by assumption)]; rfl)) ?_)) ?_)
  intro cap1 hc1
  simp only [renH, Blk.ren, SV.renL, SV.ren, tau, without, List.mem_singleton, List.mem_cons, List.not_mem_nil, or_false, or_true, true_or, Nat.reduceEqDiff, Nat.reduceLT, Nat.zero_lt_one, Nat.one_ne_zero, Nat.zero_ne_one, Nat.zero_lt_succ, ↓reduceIte, List.cons_append, List.nil_append, List.append_nil, id]
  simp (disch := omega) only [push_cast, simprocAttr]
  refine hκ.fin _ _ _ _ _ trivial rfl ?_
  exact Post.E (j := 4) (ec_bnd _ _) trivial (by decide) (by decide)  hc1 (by first | rfl | (simp [dropL, Heap.get ]; done)) (by first | rfl | (simp [dropL, Heap.get, ec ]; done)) (by first | rfl | (simp [dropL, Heap.get ]; done))
theorem startE (a : Evt) (s : Out) (cap : Nat) (hs : s.1.length < 2 ^ 40) (hcap : s.1.length ≤ cap) :
    Con Try.prog gl0 (fnv 67) [.ptr 0 0 0 0, .ptr 1 0 0 1] 3 [(0, CaE 2 cap s), (1, .own (ec a) 37), (2, RowB cap s)] (RetE (eLs a s [118, 112, 101, 97]) (ec a) 37 3 vd) := by
  have len_ok := hs
  refine Con.of Try.ok67 (nt := 23) (res := []) Try.mixed Try.func67 rfl rfl rfl rfl fun κ xc hκ => hκ.run 300 ?_
  simp (disch := omega) only [push_cast, simprocAttr]
  refine hκ.draw (.q 0 (.q 1 (.q 2 (.q 3 (.q 4 (.q 5 (.q 6 (.l 7 [] (.l 8 [] (.fin)))))))))) [0, 1, 2, 3, 4, 5, 6] (by kernel_rfl) (by kernel_rfl) rfl ?_
  simp (disch := omega) only [push_cast, simprocAttr]
  refine DCall.of (Does.E hκ.hP hκ.hgl _ (fun i => if i = 2 then 2 else if i = 3 then 3 else i) [0, 1, 2, 3] _ _ (small2E (ec a) _ 2 3 (ec_bnd _ _) (a.1 2) (a.1 3) rfl rfl _ cap (by have := len_ok; first | omega | (simp only [e1_len]; omega)) hcap) (by rfl) ⟨trivial, by simp [SV.bnd, SV.bndL], by simp [SV.bnd, SV.bndL]⟩ (by first | assumption | exact ec_bnd _ _ | (simp [SV.bnd, SV.bndL]; done)) (by decide) (by intro i hi; (repeat (first | omega | (dsimp only [id]; omega) | split))) (by intro i j; (repeat (first | omega | (dsimp only [id]; omega) | split))) (by repeat' (first | exact HeapIn.nil | refine HeapIn.cons (by decide) (by first | exact Blk.bnd_own0 (by assumption) | exact ec_bnd _ _ | (simp [Blk.bnd, SV.bnd, SV.bndL]; done)) (by simp) (by first | rfl | (rw [Blk.ren_own0 (by assumption)]; rfl)) ?_)) ?_)
  intro cap1 hc1
  simp only [renH, Blk.ren, SV.renL, SV.ren, tau, without, List.mem_singleton, List.mem_cons, List.not_mem_nil, or_false, or_true, true_or, Nat.reduceEqDiff, Nat.reduceLT, Nat.zero_lt_one, Nat.one_ne_zero, Nat.zero_ne_one, Nat.zero_lt_succ, ↓reduceIte, List.cons_append, List.nil_append, List.append_nil, id]
  simp (disch := omega) only [push_cast, simprocAttr]
  refine hκ.run 300 ?_
  simp (disch := omega) only [push_cast, simprocAttr]
  refine (Does.E hκ.hP hκ.hgl _ (fun i => if i = 2 then 4 else i) [0, 1, 4] _ _ (oneDE (ec a) _ 8 (ec_bnd _ _) (a.1 8) rfl _ cap1 (by have := len_ok; first | omega | (simp only [e1_len]; omega)) hc1) (by rfl) ⟨trivial, by simp [SV.bnd, SV.bndL], by simp [SV.bnd, SV.bndL]⟩ (by first | assumption | exact ec_bnd _ _ | (simp [SV.bnd, SV.bndL]; done)) (by decide) (by intro i hi; (repeat (first | omega | (dsimp only [id]; omega) | split))) (by intro i j; (repeat (first | omega | (dsimp only [id]; omega) | split))) (by repeat' (first | exact HeapIn.nil | refine HeapIn.cons (by decide) (by first | exact Blk.bnd_own0 (by assumption) | exact ec_bnd _ _ | (simp [Blk.bnd, SV.bnd, SV.bndL]; done)) (by simp) (by first | rfl | (rw [Blk.ren_own0 (by assumption)]; rfl)) ?_)) ?_)
  intro cap2 hc2
  simp only [renH, Blk.ren, SV.renL, SV.ren, tau, without, List.mem_singleton, List.mem_cons, List.not_mem_nil, or_false, or_true, true_or, Nat.reduceEqDiff, Nat.reduceLT, Nat.zero_lt_one, Nat.one_ne_zero, Nat.zero_ne_one, Nat.zero_lt_succ, ↓reduceIte, List.cons_append, List.nil_append, List.append_nil, id]
  refine hκ.run 300 ?_
  simp (disch := omega) only [push_cast, simprocAttr]
  refine (Does.E hκ.hP hκ.hgl _ (fun i => if i = 2 then 5 else i) [0, 1, 5] _ _ (oneDE (ec a) _ 7 (ec_bnd _ _) (a.1 7) rfl _ cap2 (by have := len_ok; first | omega | (simp only [e1_len]; omega)) hc2) (by rfl) ⟨trivial, by simp [SV.bnd, SV.bndL], by simp [SV.bnd, SV.bndL]⟩ (by first | assumption | exact ec_bnd _ _ | (simp [SV.bnd, SV.bndL]; done)) (by decide) (by intro i hi; (repeat (first | omega | (dsimp only [id]; omega) | split))) (by intro i j; (repeat (first | omega | (dsimp only [id]; omega) | split))) (by repeat' (first | exact HeapIn.nil | refine HeapIn.cons (by decide) (by first | exact Blk.bnd_own0 (by assumption) | exact ec_bnd _ _ | (simp [Blk.bnd, SV.bnd, SV.bndL]; done)) (by simp) (by first | rfl | (rw [Blk.ren_own0 (by assumption)]; rfl)) ?_)) ?_)
  intro cap3 hc3
  simp only [renH, Blk.ren, SV.renL, SV.ren, tau, without, List.mem_singleton, List.mem_cons, List.not_mem_nil, or_false, or_true, true_or, Nat.reduceEqDiff, Nat.reduceLT, Nat.zero_lt_one, Nat.one_ne_zero, Nat.zero_ne_one, Nat.zero_lt_succ, ↓reduceIte, List.cons_append, List.nil_append, List.append_nil, id]
  refine hκ.run 300 ?_
  simp (disch := omega) only [push_cast, simprocAttr]
  refine hκ.fin _ _ _ _ _ trivial rfl ?_
  exact Post.E (j := 6) (ec_bnd _ _) trivial (by decide) (by decide)  hc3 (by first | rfl | (simp [dropL, Heap.get ]; done)) (by first | rfl | (simp [dropL, Heap.get, ec ]; done)) (by first | rfl | (simp [dropL, Heap.get ]; done))
theorem vcpuE (a : Evt) (s : Out) (cap : Nat) (hs : s.1.length < 2 ^ 40) (hcap : s.1.length ≤ cap) :
    Con Try.prog gl0 (fnv 68) [.ptr 0 0 0 0, .ptr 1 0 0 1] 3 [(0, CaE 2 cap s), (1, .own (ec a) 37), (2, RowB cap s)] (RetE (eLs a s [118]) (ec a) 37 3 vd) := by
  have len_ok := hs
  refine Con.of Try.ok68 (nt := 10) (res := []) Try.mixed Try.func68 rfl rfl rfl rfl fun κ xc hκ => hκ.run 300 ?_
  simp (disch := omega) only [push_cast, simprocAttr]
  refine (Does.E hκ.hP hκ.hgl _ (fun i => if i = 2 then 2 else if i = 3 then 3 else i) [0, 1, 2, 3] _ _ (small1E (ec a) _ 2 (ec_bnd _ _) (a.1 2) rfl _ cap (by have := len_ok; first | omega | (simp only [e1_len]; omega)) hcap) (by rfl) ⟨trivial, by simp [SV.bnd, SV.bndL], by simp [SV.bnd, SV.bndL]⟩ (by first | assumption | exact ec_bnd _ _ | (simp [SV.bnd, SV.bndL]; done)) (by decide) (by intro i hi; (repeat (first | omega | (dsimp only [id]; omega) | split))) (by intro i j; (repeat (first | omega | (dsimp only [id]; omega) | split))) (by repeat' (first | exact HeapIn.nil | refine HeapIn.cons (by decide) (by first | exact Blk.bnd_own0 (by assumption) | exact ec_bnd _ _ | (simp [Blk.bnd, SV.bnd, SV.bndL]; done)) (by simp) (by first | rfl | (rw [Blk.ren_own0 (by assumption)]; rfl)) ?_)) ?_)
  intro cap1 hc1
  simp only [renH, Blk.ren, SV.renL, SV.ren, tau, without, List.mem_singleton, List.mem_cons, List.not_mem_nil, or_false, or_true, true_or, Nat.reduceEqDiff, Nat.reduceLT, Nat.zero_lt_one, Nat.one_ne_zero, Nat.zero_ne_one, Nat.zero_lt_succ, ↓reduceIte, List.cons_append, List.nil_append, List.append_nil, id]
  refine hκ.run 300 ?_
  simp (disch := omega) only [push_cast, simprocAttr]
  refine hκ.fin _ _ _ _ _ trivial rfl ?_
  exact Post.E (j := 4) (ec_bnd _ _) trivial (by decide) (by decide)  hc1 (by first | rfl | (simp [dropL, Heap.get ]; done)) (by first | rfl | (simp [dropL, Heap.get, ec ]; done)) (by first | rfl | (simp [dropL, Heap.get ]; done))
theorem portE (a : Evt) (s : Out) (cap : Nat) (hs : s.1.length < 2 ^ 40) (hcap : s.1.length ≤ cap) :
    Con Try.prog gl0 (fnv 69) [.ptr 0 0 0 0, .ptr 1 0 0 1] 3 [(0, CaE 2 cap s), (1, .own (ec a) 37), (2, RowB cap s)] (RetE (eLs a s [112]) (ec a) 37 3 vd) := by
  have len_ok := hs
  refine Con.of Try.ok69 (nt := 10) (res := []) Try.mixed Try.func69 rfl rfl rfl rfl fun κ xc hκ => hκ.run 300 ?_
  simp (disch := omega) only [push_cast, simprocAttr]
  refine (Does.E hκ.hP hκ.hgl _ (fun i => if i = 2 then 2 else if i = 3 then 3 else i) [0, 1, 2, 3] _ _ (small1E (ec a) _ 3 (ec_bnd _ _) (a.1 3) rfl _ cap (by have := len_ok; first | omega | (simp only [e1_len]; omega)) hcap) (by rfl) ⟨trivial, by simp [SV.bnd, SV.bndL], by simp [SV.bnd, SV.bndL]⟩ (by first | assumption | exact ec_bnd _ _ | (simp [SV.bnd, SV.bndL]; done)) (by decide) (by intro i hi; (repeat (first | omega | (dsimp only [id]; omega) | split))) (by intro i j; (repeat (first | omega | (dsimp only [id]; omega) | split))) (by repeat' (first | exact HeapIn.nil | refine HeapIn.cons (by decide) (by first | exact Blk.bnd_own0 (by assumption) | exact ec_bnd _ _ | (simp [Blk.bnd, SV.bnd, SV.bndL]; done)) (by simp) (by first | rfl | (rw [Blk.ren_own0 (by assumption)]; rfl)) ?_)) ?_)
  intro cap1 hc1
  simp only [renH, Blk.ren, SV.renL, SV.ren, tau, without, List.mem_singleton, List.mem_cons, List.not_mem_nil, or_false, or_true, true_or, Nat.reduceEqDiff, Nat.reduceLT, Nat.zero_lt_one, Nat.one_ne_zero, Nat.zero_ne_one, Nat.zero_lt_succ, ↓reduceIte, List.cons_append, List.nil_append, List.append_nil, id]
  refine hκ.run 300 ?_
  simp (disch := omega) only [push_cast, simprocAttr]
  refine hκ.fin _ _ _ _ _ trivial rfl ?_
  exact Post.E (j := 4) (ec_bnd _ _) trivial (by decide) (by decide)  hc1 (by first | rfl | (simp [dropL, Heap.get ]; done)) (by first | rfl | (simp [dropL, Heap.get, ec ]; done)) (by first | rfl | (simp [dropL, Heap.get ]; done))
theorem change1E (a : Evt) (h15 : a.1 15 = 1) (s : Out) (cap : Nat) (hs : s.1.length < 2 ^ 40) (hcap : s.1.length ≤ cap) :
    Con Try.prog gl0 (fnv 51) [.ptr 0 0 0 0, .ptr 1 0 0 15] 3 [(0, CaE 2 cap s), (1, .own (ec a) 37), (2, RowB cap s)] (RetE (eLs a s [68, 87]) (ec a) 37 3 (Bo true)) := by
  have len_ok := hs
  have cec : cut (ec a) 15 1 = some [I (a.1 15)] := rfl
  rw [h15] at cec
  refine Con.of Try.ok51 (nt := 117) (res := [.tmp 4]) Try.mixed Try.func51 rfl rfl rfl rfl fun κ xc hκ => hκ.run 300 ?_
  simp (disch := omega) only [push_cast, simprocAttr, cec]
  refine (Does.E hκ.hP hκ.hgl _ (fun i => if i = 2 then 2 else if i = 3 then 3 else i) [0, 1, 2, 3] _ _ (small1E (ec a) _ 16 (ec_bnd _ _) (a.1 16) rfl _ cap (by have := len_ok; first | omega | (simp only [e1_len]; omega)) hcap) (by rfl) ⟨trivial, by simp [SV.bnd, SV.bndL], by simp [SV.bnd, SV.bndL]⟩ (by first | assumption | exact ec_bnd _ _ | (simp [SV.bnd, SV.bndL]; done)) (by decide) (by intro i hi; (repeat (first | omega | (dsimp only [id]; omega) | split))) (by intro i j; (repeat (first | omega | (dsimp only [id]; omega) | split))) (by repeat' (first | exact HeapIn.nil | refine HeapIn.cons (by decide) (by first | exact Blk.bnd_own0 (by assumption) | exact ec_bnd _ _ | (simp [Blk.bnd, SV.bnd, SV.bndL]; done)) (by simp) (by first | rfl | (rw [Blk.ren_own0 (by assumption)]; rfl)) ?_)) ?_)
  intro cap1 hc1
  simp only [renH, Blk.ren, SV.renL, SV.ren, tau, without, List.mem_singleton, List.mem_cons, List.not_mem_nil, or_false, or_true, true_or, Nat.reduceEqDiff, Nat.reduceLT, Nat.zero_lt_one, Nat.one_ne_zero, Nat.zero_ne_one, Nat.zero_lt_succ, ↓reduceIte, List.cons_append, List.nil_append, List.append_nil, id]
  refine hκ.run 300 ?_
  simp (disch := omega) only [push_cast, simprocAttr, cec]
  refine (Does.E hκ.hP hκ.hgl _ (fun i => if i = 2 then 4 else i) [0, 1, 4] _ _ (oneBE (ec a) _ 22 (ec_bnd _ _) (a.1 22) rfl _ cap1 (by have := len_ok; first | omega | (simp only [e1_len]; omega)) hc1) (by rfl) ⟨trivial, by simp [SV.bnd, SV.bndL], by simp [SV.bnd, SV.bndL]⟩ (by first | assumption | exact ec_bnd _ _ | (simp [SV.bnd, SV.bndL]; done)) (by decide) (by intro i hi; (repeat (first | omega | (dsimp only [id]; omega) | split))) (by intro i j; (repeat (first | omega | (dsimp only [id]; omega) | split))) (by repeat' (first | exact HeapIn.nil | refine HeapIn.cons (by decide) (by first | exact Blk.bnd_own0 (by assumption) | exact ec_bnd _ _ | (simp [Blk.bnd, SV.bnd, SV.bndL]; done)) (by simp) (by first | rfl | (rw [Blk.ren_own0 (by assumption)]; rfl)) ?_)) ?_)
  intro cap2 hc2
  simp only [renH, Blk.ren, SV.renL, SV.ren, tau, without, List.mem_singleton, List.mem_cons, List.not_mem_nil, or_false, or_true, true_or, Nat.reduceEqDiff, Nat.reduceLT, Nat.zero_lt_one, Nat.one_ne_zero, Nat.zero_ne_one, Nat.zero_lt_succ, ↓reduceIte, List.cons_append, List.nil_append, List.append_nil, id]
  refine hκ.run 300 ?_
  simp (disch := omega) only [push_cast, simprocAttr, cec]
  refine hκ.ret _ _ _ _ _ _ trivial rfl ?_
  exact Post.E (j := 5) (ec_bnd _ _) trivial (by decide) (by decide)  hc2 (by first | rfl | (simp [dropL, Heap.get ]; done)) (by first | rfl | (simp [dropL, Heap.get, ec ]; done)) (by first | rfl | (simp [dropL, Heap.get ]; done))
theorem change2E (a : Evt) (h15 : a.1 15 = 2) (s : Out) (cap : Nat) (hs : s.1.length < 2 ^ 40) (hcap : s.1.length ≤ cap) :
    Con Try.prog gl0 (fnv 51) [.ptr 0 0 0 0, .ptr 1 0 0 15] 3 [(0, CaE 2 cap s), (1, .own (ec a) 37), (2, RowB cap s)] (RetE (eLs a s [68, 67]) (ec a) 37 3 (Bo true)) := by
  have len_ok := hs
  have cec : cut (ec a) 15 1 = some [I (a.1 15)] := rfl
  rw [h15] at cec
  refine Con.of Try.ok51 (nt := 117) (res := [.tmp 4]) Try.mixed Try.func51 rfl rfl rfl rfl fun κ xc hκ => hκ.run 300 ?_
  simp (disch := omega) only [push_cast, simprocAttr, cec]
  refine (Does.E hκ.hP hκ.hgl _ (fun i => if i = 2 then 2 else if i = 3 then 3 else i) [0, 1, 2, 3] _ _ (small1E (ec a) _ 16 (ec_bnd _ _) (a.1 16) rfl _ cap (by have := len_ok; first | omega | (simp only [e1_len]; omega)) hcap) (by rfl) ⟨trivial, by simp [SV.bnd, SV.bndL], by simp [SV.bnd, SV.bndL]⟩ (by first | assumption | exact ec_bnd _ _ | (simp [SV.bnd, SV.bndL]; done)) (by decide) (by intro i hi; (repeat (first | omega | (dsimp only [id]; omega) | split))) (by intro i j; (repeat (first | omega | (dsimp only [id]; omega) | split))) (by repeat' (first | exact HeapIn.nil | refine HeapIn.cons (by decide) (by first | exact Blk.bnd_own0 (by assumption) | exact ec_bnd _ _ | (simp [Blk.bnd, SV.bnd, SV.bndL]; done)) (by simp) (by first | rfl | (rw [Blk.ren_own0 (by assumption)]; rfl)) ?_)) ?_)
  intro cap1 hc1
  simp only [renH, Blk.ren, SV.renL, SV.ren, tau, without, List.mem_singleton, List.mem_cons, List.not_mem_nil, or_false, or_true, true_or, Nat.reduceEqDiff, Nat.reduceLT, Nat.zero_lt_one, Nat.one_ne_zero, Nat.zero_ne_one, Nat.zero_lt_succ, ↓reduceIte, List.cons_append, List.nil_append, List.append_nil, id]
  refine hκ.run 300 ?_
  simp (disch := omega) only [push_cast, simprocAttr, cec]
  refine (Does.E hκ.hP hκ.hgl _ (fun i => if i = 2 then 4 else i) [0, 1, 4] _ _ (oneBE (ec a) _ 23 (ec_bnd _ _) (a.1 23) rfl _ cap1 (by have := len_ok; first | omega | (simp only [e1_len]; omega)) hc1) (by rfl) ⟨trivial, by simp [SV.bnd, SV.bndL], by simp [SV.bnd, SV.bndL]⟩ (by first | assumption | exact ec_bnd _ _ | (simp [SV.bnd, SV.bndL]; done)) (by decide) (by intro i hi; (repeat (first | omega | (dsimp only [id]; omega) | split))) (by intro i j; (repeat (first | omega | (dsimp only [id]; omega) | split))) (by repeat' (first | exact HeapIn.nil | refine HeapIn.cons (by decide) (by first | exact Blk.bnd_own0 (by assumption) | exact ec_bnd _ _ | (simp [Blk.bnd, SV.bnd, SV.bndL]; done)) (by simp) (by first | rfl | (rw [Blk.ren_own0 (by assumption)]; rfl)) ?_)) ?_)
  intro cap2 hc2
  simp only [renH, Blk.ren, SV.renL, SV.ren, tau, without, List.mem_singleton, List.mem_cons, List.not_mem_nil, or_false, or_true, true_or, Nat.reduceEqDiff, Nat.reduceLT, Nat.zero_lt_one, Nat.one_ne_zero, Nat.zero_ne_one, Nat.zero_lt_succ, ↓reduceIte, List.cons_append, List.nil_append, List.append_nil, id]
  refine hκ.run 300 ?_
  simp (disch := omega) only [push_cast, simprocAttr, cec]
  refine hκ.ret _ _ _ _ _ _ trivial rfl ?_
  exact Post.E (j := 5) (ec_bnd _ _) trivial (by decide) (by decide)  hc2 (by first | rfl | (simp [dropL, Heap.get ]; done)) (by first | rfl | (simp [dropL, Heap.get, ec ]; done)) (by first | rfl | (simp [dropL, Heap.get ]; done))
theorem change3E (a : Evt) (h15 : a.1 15 = 3) (s : Out) (cap : Nat) (hs : s.1.length < 2 ^ 40) (hcap : s.1.length ≤ cap) :
    Con Try.prog gl0 (fnv 51) [.ptr 0 0 0 0, .ptr 1 0 0 15] 3 [(0, CaE 2 cap s), (1, .own (ec a) 37), (2, RowB cap s)] (RetE (eLs a s [68, 80]) (ec a) 37 3 (Bo true)) := by
  have len_ok := hs
  have cec : cut (ec a) 15 1 = some [I (a.1 15)] := rfl
  rw [h15] at cec
  refine Con.of Try.ok51 (nt := 117) (res := [.tmp 4]) Try.mixed Try.func51 rfl rfl rfl rfl fun κ xc hκ => hκ.run 300 ?_
  simp (disch := omega) only [push_cast, simprocAttr, cec]
  refine hκ.draw (.q 0 (.q 1 (.q 2 (.q 3 (.q 4 (.q 5 (.q 6 (.l 7 [] (.l 8 [] (.fin)))))))))) [0, 1, 2, 3, 4, 5, 6] (by kernel_rfl) (by kernel_rfl) rfl ?_
  simp (disch := omega) only [push_cast, simprocAttr, cec]
  refine DCall.of (Does.E hκ.hP hκ.hgl _ (fun i => if i = 2 then 2 else if i = 3 then 3 else i) [0, 1, 2, 3] _ _ (small2E (ec a) _ 16 20 (ec_bnd _ _) (a.1 16) (a.1 20) rfl rfl _ cap (by have := len_ok; first | omega | (simp only [e1_len]; omega)) hcap) (by rfl) ⟨trivial, by simp [SV.bnd, SV.bndL], by simp [SV.bnd, SV.bndL]⟩ (by first | assumption | exact ec_bnd _ _ | (simp [SV.bnd, SV.bndL]; done)) (by decide) (by intro i hi; (repeat (first | omega | (dsimp only [id]; omega) | split))) (by intro i j; (repeat (first | omega | (dsimp only [id]; omega) | split))) (by repeat' (first | exact HeapIn.nil | refine HeapIn.cons (by decide) (by first | exact Blk.bnd_own0 (by assumption) | exact ec_bnd _ _ | (simp [Blk.bnd, SV.bnd, SV.bndL]; done)) (by simp) (by first | rfl | (rw [Blk.ren_own0 (by assumption)]; rfl)) ?_)) ?_)
  intro cap1 hc1
  simp only [renH, Blk.ren, SV.renL, SV.ren, tau, without, List.mem_singleton, List.mem_cons, List.not_mem_nil, or_false, or_true, true_or, Nat.reduceEqDiff, Nat.reduceLT, Nat.zero_lt_one, Nat.one_ne_zero, Nat.zero_ne_one, Nat.zero_lt_succ, ↓reduceIte, List.cons_append, List.nil_append, List.append_nil, id]
  simp (disch := omega) only [push_cast, simprocAttr, cec]
  refine hκ.run 300 ?_
  simp (disch := omega) only [push_cast, simprocAttr, cec]
  refine hκ.ret _ _ _ _ _ _ trivial rfl ?_
  exact Post.E (j := 4) (ec_bnd _ _) trivial (by decide) (by decide)  hc1 (by first | rfl | (simp [dropL, Heap.get ]; done)) (by first | rfl | (simp [dropL, Heap.get, ec ]; done)) (by first | rfl | (simp [dropL, Heap.get ]; done))
theorem change4E (a : Evt) (h15 : a.1 15 = 4) (s : Out) (cap : Nat) (hs : s.1.length < 2 ^ 40) (hcap : s.1.length ≤ cap) :
    Con Try.prog gl0 (fnv 51) [.ptr 0 0 0 0, .ptr 1 0 0 15] 3 [(0, CaE 2 cap s), (1, .own (ec a) 37), (2, RowB cap s)] (RetE (eLs a s [86, 77]) (ec a) 37 3 (Bo true)) := by
  have len_ok := hs
  have cec : cut (ec a) 15 1 = some [I (a.1 15)] := rfl
  rw [h15] at cec
  refine Con.of Try.ok51 (nt := 117) (res := [.tmp 4]) Try.mixed Try.func51 rfl rfl rfl rfl fun κ xc hκ => hκ.run 300 ?_
  simp (disch := omega) only [push_cast, simprocAttr, cec]
  refine (Does.E hκ.hP hκ.hgl _ (fun i => if i = 2 then 2 else if i = 3 then 3 else i) [0, 1, 2, 3] _ _ (small1E (ec a) _ 17 (ec_bnd _ _) (a.1 17) rfl _ cap (by have := len_ok; first | omega | (simp only [e1_len]; omega)) hcap) (by rfl) ⟨trivial, by simp [SV.bnd, SV.bndL], by simp [SV.bnd, SV.bndL]⟩ (by first | assumption | exact ec_bnd _ _ | (simp [SV.bnd, SV.bndL]; done)) (by decide) (by intro i hi; (repeat (first | omega | (dsimp only [id]; omega) | split))) (by intro i j; (repeat (first | omega | (dsimp only [id]; omega) | split))) (by repeat' (first | exact HeapIn.nil | refine HeapIn.cons (by decide) (by first | exact Blk.bnd_own0 (by assumption) | exact ec_bnd _ _ | (simp [Blk.bnd, SV.bnd, SV.bndL]; done)) (by simp) (by first | rfl | (rw [Blk.ren_own0 (by assumption)]; rfl)) ?_)) ?_)
  intro cap1 hc1
  simp only [renH, Blk.ren, SV.renL, SV.ren, tau, without, List.mem_singleton, List.mem_cons, List.not_mem_nil, or_false, or_true, true_or, Nat.reduceEqDiff, Nat.reduceLT, Nat.zero_lt_one, Nat.one_ne_zero, Nat.zero_ne_one, Nat.zero_lt_succ, ↓reduceIte, List.cons_append, List.nil_append, List.append_nil, id]
  refine hκ.run 300 ?_
  simp (disch := omega) only [push_cast, simprocAttr, cec]
  refine (Does.E hκ.hP hκ.hgl _ (fun i => if i = 2 then 4 else i) [0, 1, 4] _ _ (maskME a _ cap1 (by have := len_ok; first | omega | (simp only [e1_len]; omega)) hc1) (by rfl) ⟨trivial, by simp [SV.bnd, SV.bndL], by simp [SV.bnd, SV.bndL]⟩ (by first | assumption | exact ec_bnd _ _ | (simp [SV.bnd, SV.bndL]; done)) (by decide) (by intro i hi; (repeat (first | omega | (dsimp only [id]; omega) | split))) (by intro i j; (repeat (first | omega | (dsimp only [id]; omega) | split))) (by repeat' (first | exact HeapIn.nil | refine HeapIn.cons (by decide) (by first | exact Blk.bnd_own0 (by assumption) | exact ec_bnd _ _ | (simp [Blk.bnd, SV.bnd, SV.bndL]; done)) (by simp) (by first | rfl | (rw [Blk.ren_own0 (by assumption)]; rfl)) ?_)) ?_)
  intro cap2 hc2
  simp only [renH, Blk.ren, SV.renL, SV.ren, tau, without, List.mem_singleton, List.mem_cons, List.not_mem_nil, or_false, or_true, true_or, Nat.reduceEqDiff, Nat.reduceLT, Nat.zero_lt_one, Nat.one_ne_zero, Nat.zero_ne_one, Nat.zero_lt_succ, ↓reduceIte, List.cons_append, List.nil_append, List.append_nil, id]
  refine hκ.run 300 ?_
  simp (disch := omega) only [push_cast, simprocAttr, cec]
  refine hκ.ret _ _ _ _ _ _ trivial rfl ?_
  exact Post.E (j := 5) (ec_bnd _ _) trivial (by decide) (by decide)  hc2 (by first | rfl | (simp [dropL, Heap.get ]; done)) (by first | rfl | (simp [dropL, Heap.get, ec ]; done)) (by first | rfl | (simp [dropL, Heap.get ]; done))
theorem change5E (a : Evt) (h15 : a.1 15 = 5) (h27 : a.2.2.length < 2 ^ 40) (s : Out) (cap : Nat) (hs : s.1.length < 2 ^ 40) (hcap : s.1.length ≤ cap) :
    Con Try.prog gl0 (fnv 51) [.ptr 0 0 0 0, .ptr 1 0 0 15] 3 [(0, CaE 2 cap s), (1, .own (ec a) 37), (2, RowB cap s)] (RetE (eLs a s [78]) (ec a) 37 3 (Bo true)) := by
  have len_ok := hs
  have cec : cut (ec a) 15 1 = some [I (a.1 15)] := rfl
  rw [h15] at cec
  refine Con.of Try.ok51 (nt := 117) (res := [.tmp 4]) Try.mixed Try.func51 rfl rfl rfl rfl fun κ xc hκ => hκ.run 300 ?_
  simp (disch := omega) only [push_cast, simprocAttr, cec]
  refine (Does.E hκ.hP hκ.hgl _ (fun i => if i = 2 then 2 else i) [0, 1, 2] _ _ (listME a h27 _ cap (by have := len_ok; first | omega | (simp only [e1_len]; omega)) hcap) (by rfl) ⟨trivial, by simp [SV.bnd, SV.bndL], by simp [SV.bnd, SV.bndL]⟩ (by first | assumption | exact ec_bnd _ _ | (simp [SV.bnd, SV.bndL]; done)) (by decide) (by intro i hi; (repeat (first | omega | (dsimp only [id]; omega) | split))) (by intro i j; (repeat (first | omega | (dsimp only [id]; omega) | split))) (by repeat' (first | exact HeapIn.nil | refine HeapIn.cons (by decide) (by first | exact Blk.bnd_own0 (by assumption) | exact ec_bnd _ _ | (simp [Blk.bnd, SV.bnd, SV.bndL]; done)) (by simp) (by first | rfl | (rw [Blk.ren_own0 (by assumption)]; rfl)) ?_)) ?_)
  intro cap1 hc1
  simp only [renH, Blk.ren, SV.renL, SV.ren, tau, without, List.mem_singleton, List.mem_cons, List.not_mem_nil, or_false, or_true, true_or, Nat.reduceEqDiff, Nat.reduceLT, Nat.zero_lt_one, Nat.one_ne_zero, Nat.zero_ne_one, Nat.zero_lt_succ, ↓reduceIte, List.cons_append, List.nil_append, List.append_nil, id]
  refine hκ.run 300 ?_
  simp (disch := omega) only [push_cast, simprocAttr, cec]
  refine hκ.ret _ _ _ _ _ _ trivial rfl ?_
  exact Post.E (j := 3) (ec_bnd _ _) trivial (by decide) (by decide)  hc1 (by first | rfl | (simp [dropL, Heap.get ]; done)) (by first | rfl | (simp [dropL, Heap.get, ec ]; done)) (by first | rfl | (simp [dropL, Heap.get ]; done))
theorem change6E (a : Evt) (h15 : a.1 15 = 6) (s : Out) (cap : Nat) (hs : s.1.length < 2 ^ 40) (hcap : s.1.length ≤ cap) :
    Con Try.prog gl0 (fnv 51) [.ptr 0 0 0 0, .ptr 1 0 0 15] 3 [(0, CaE 2 cap s), (1, .own (ec a) 37), (2, RowB cap s)] (RetE (eLs a s [71]) (ec a) 37 3 (Bo true)) := by
  have len_ok := hs
  have cec : cut (ec a) 15 1 = some [I (a.1 15)] := rfl
  rw [h15] at cec
  refine Con.of Try.ok51 (nt := 117) (res := [.tmp 4]) Try.mixed Try.func51 rfl rfl rfl rfl fun κ xc hκ => hκ.run 300 ?_
  simp (disch := omega) only [push_cast, simprocAttr, cec]
  refine (Does.E hκ.hP hκ.hgl _ (fun i => if i = 2 then 2 else if i = 3 then 3 else i) [0, 1, 2, 3] _ _ (small1E (ec a) _ 18 (ec_bnd _ _) (a.1 18) rfl _ cap (by have := len_ok; first | omega | (simp only [e1_len]; omega)) hcap) (by rfl) ⟨trivial, by simp [SV.bnd, SV.bndL], by simp [SV.bnd, SV.bndL]⟩ (by first | assumption | exact ec_bnd _ _ | (simp [SV.bnd, SV.bndL]; done)) (by decide) (by intro i hi; (repeat (first | omega | (dsimp only [id]; omega) | split))) (by intro i j; (repeat (first | omega | (dsimp only [id]; omega) | split))) (by repeat' (first | exact HeapIn.nil | refine HeapIn.cons (by decide) (by first | exact Blk.bnd_own0 (by assumption) | exact ec_bnd _ _ | (simp [Blk.bnd, SV.bnd, SV.bndL]; done)) (by simp) (by first | rfl | (rw [Blk.ren_own0 (by assumption)]; rfl)) ?_)) ?_)
  intro cap1 hc1
  simp only [renH, Blk.ren, SV.renL, SV.ren, tau, without, List.mem_singleton, List.mem_cons, List.not_mem_nil, or_false, or_true, true_or, Nat.reduceEqDiff, Nat.reduceLT, Nat.zero_lt_one, Nat.one_ne_zero, Nat.zero_ne_one, Nat.zero_lt_succ, ↓reduceIte, List.cons_append, List.nil_append, List.append_nil, id]
  refine hκ.run 300 ?_
  simp (disch := omega) only [push_cast, simprocAttr, cec]
  refine hκ.ret _ _ _ _ _ _ trivial rfl ?_
  exact Post.E (j := 4) (ec_bnd _ _) trivial (by decide) (by decide)  hc1 (by first | rfl | (simp [dropL, Heap.get ]; done)) (by first | rfl | (simp [dropL, Heap.get, ec ]; done)) (by first | rfl | (simp [dropL, Heap.get ]; done))
theorem change7E (a : Evt) (h15 : a.1 15 = 7) (s : Out) (cap : Nat) (hs : s.1.length < 2 ^ 40) (hcap : s.1.length ≤ cap) :
    Con Try.prog gl0 (fnv 51) [.ptr 0 0 0 0, .ptr 1 0 0 15] 3 [(0, CaE 2 cap s), (1, .own (ec a) 37), (2, RowB cap s)] (RetE (eLs a s [86]) (ec a) 37 3 (Bo true)) := by
  have len_ok := hs
  have cec : cut (ec a) 15 1 = some [I (a.1 15)] := rfl
  rw [h15] at cec
  refine Con.of Try.ok51 (nt := 117) (res := [.tmp 4]) Try.mixed Try.func51 rfl rfl rfl rfl fun κ xc hκ => hκ.run 300 ?_
  simp (disch := omega) only [push_cast, simprocAttr, cec]
  refine (Does.E hκ.hP hκ.hgl _ (fun i => if i = 2 then 2 else if i = 3 then 3 else i) [0, 1, 2, 3] _ _ (small1E (ec a) _ 17 (ec_bnd _ _) (a.1 17) rfl _ cap (by have := len_ok; first | omega | (simp only [e1_len]; omega)) hcap) (by rfl) ⟨trivial, by simp [SV.bnd, SV.bndL], by simp [SV.bnd, SV.bndL]⟩ (by first | assumption | exact ec_bnd _ _ | (simp [SV.bnd, SV.bndL]; done)) (by decide) (by intro i hi; (repeat (first | omega | (dsimp only [id]; omega) | split))) (by intro i j; (repeat (first | omega | (dsimp only [id]; omega) | split))) (by repeat' (first | exact HeapIn.nil | refine HeapIn.cons (by decide) (by first | exact Blk.bnd_own0 (by assumption) | exact ec_bnd _ _ | (simp [Blk.bnd, SV.bnd, SV.bndL]; done)) (by simp) (by first | rfl | (rw [Blk.ren_own0 (by assumption)]; rfl)) ?_)) ?_)
  intro cap1 hc1
  simp only [renH, Blk.ren, SV.renL, SV.ren, tau, without, List.mem_singleton, List.mem_cons, List.not_mem_nil, or_false, or_true, true_or, Nat.reduceEqDiff, Nat.reduceLT, Nat.zero_lt_one, Nat.one_ne_zero, Nat.zero_ne_one, Nat.zero_lt_succ, ↓reduceIte, List.cons_append, List.nil_append, List.append_nil, id]
  refine hκ.run 300 ?_
  simp (disch := omega) only [push_cast, simprocAttr, cec]
  refine hκ.ret _ _ _ _ _ _ trivial rfl ?_
  exact Post.E (j := 4) (ec_bnd _ _) trivial (by decide) (by decide)  hc1 (by first | rfl | (simp [dropL, Heap.get ]; done)) (by first | rfl | (simp [dropL, Heap.get, ec ]; done)) (by first | rfl | (simp [dropL, Heap.get ]; done))
theorem change8E (a : Evt) (h15 : a.1 15 = 8) (s : Out) (cap : Nat) (hs : s.1.length < 2 ^ 40) (hcap : s.1.length ≤ cap) :
    Con Try.prog gl0 (fnv 51) [.ptr 0 0 0 0, .ptr 1 0 0 15] 3 [(0, CaE 2 cap s), (1, .own (ec a) 37), (2, RowB cap s)] (RetE (eLs a s [80, 83]) (ec a) 37 3 (Bo true)) := by
  have len_ok := hs
  have cec : cut (ec a) 15 1 = some [I (a.1 15)] := rfl
  rw [h15] at cec
  refine Con.of Try.ok51 (nt := 117) (res := [.tmp 4]) Try.mixed Try.func51 rfl rfl rfl rfl fun κ xc hκ => hκ.run 300 ?_
  simp (disch := omega) only [push_cast, simprocAttr, cec]
  refine (Does.E hκ.hP hκ.hgl _ (fun i => if i = 2 then 2 else if i = 3 then 3 else i) [0, 1, 2, 3] _ _ (small1E (ec a) _ 20 (ec_bnd _ _) (a.1 20) rfl _ cap (by have := len_ok; first | omega | (simp only [e1_len]; omega)) hcap) (by rfl) ⟨trivial, by simp [SV.bnd, SV.bndL], by simp [SV.bnd, SV.bndL]⟩ (by first | assumption | exact ec_bnd _ _ | (simp [SV.bnd, SV.bndL]; done)) (by decide) (by intro i hi; (repeat (first | omega | (dsimp only [id]; omega) | split))) (by intro i j; (repeat (first | omega | (dsimp only [id]; omega) | split))) (by repeat' (first | exact HeapIn.nil | refine HeapIn.cons (by decide) (by first | exact Blk.bnd_own0 (by assumption) | exact ec_bnd _ _ | (simp [Blk.bnd, SV.bnd, SV.bndL]; done)) (by simp) (by first | rfl | (rw [Blk.ren_own0 (by assumption)]; rfl)) ?_)) ?_)
  intro cap1 hc1
  simp only [renH, Blk.ren, SV.renL, SV.ren, tau, without, List.mem_singleton, List.mem_cons, List.not_mem_nil, or_false, or_true, true_or, Nat.reduceEqDiff, Nat.reduceLT, Nat.zero_lt_one, Nat.one_ne_zero, Nat.zero_ne_one, Nat.zero_lt_succ, ↓reduceIte, List.cons_append, List.nil_append, List.append_nil, id]
  refine hκ.run 300 ?_
  simp (disch := omega) only [push_cast, simprocAttr, cec]
  refine (Does.E hκ.hP hκ.hgl _ (fun i => if i = 2 then 4 else i) [0, 1, 4] _ _ (oneCE (ec a) _ 26 (ec_bnd _ _) (a.1 26) rfl _ cap1 (by have := len_ok; first | omega | (simp only [e1_len]; omega)) hc1) (by rfl) ⟨trivial, by simp [SV.bnd, SV.bndL], by simp [SV.bnd, SV.bndL]⟩ (by first | assumption | exact ec_bnd _ _ | (simp [SV.bnd, SV.bndL]; done)) (by decide) (by intro i hi; (repeat (first | omega | (dsimp only [id]; omega) | split))) (by intro i j; (repeat (first | omega | (dsimp only [id]; omega) | split))) (by repeat' (first | exact HeapIn.nil | refine HeapIn.cons (by decide) (by first | exact Blk.bnd_own0 (by assumption) | exact ec_bnd _ _ | (simp [Blk.bnd, SV.bnd, SV.bndL]; done)) (by simp) (by first | rfl | (rw [Blk.ren_own0 (by assumption)]; rfl)) ?_)) ?_)
  intro cap2 hc2
  simp only [renH, Blk.ren, SV.renL, SV.ren, tau, without, List.mem_singleton, List.mem_cons, List.not_mem_nil, or_false, or_true, true_or, Nat.reduceEqDiff, Nat.reduceLT, Nat.zero_lt_one, Nat.one_ne_zero, Nat.zero_ne_one, Nat.zero_lt_succ, ↓reduceIte, List.cons_append, List.nil_append, List.append_nil, id]
  refine hκ.run 300 ?_
  simp (disch := omega) only [push_cast, simprocAttr, cec]
  refine hκ.ret _ _ _ _ _ _ trivial rfl ?_
  exact Post.E (j := 5) (ec_bnd _ _) trivial (by decide) (by decide)  hc2 (by first | rfl | (simp [dropL, Heap.get ]; done)) (by first | rfl | (simp [dropL, Heap.get, ec ]; done)) (by first | rfl | (simp [dropL, Heap.get ]; done))
theorem change9E (a : Evt) (h15 : a.1 15 = 9) (s : Out) (cap : Nat) (hs : s.1.length < 2 ^ 40) (hcap : s.1.length ≤ cap) :
    Con Try.prog gl0 (fnv 51) [.ptr 0 0 0 0, .ptr 1 0 0 15] 3 [(0, CaE 2 cap s), (1, .own (ec a) 37), (2, RowB cap s)] (RetE (eLs a s [80, 73]) (ec a) 37 3 (Bo true)) := by
  have len_ok := hs
  have cec : cut (ec a) 15 1 = some [I (a.1 15)] := rfl
  rw [h15] at cec
  refine Con.of Try.ok51 (nt := 117) (res := [.tmp 4]) Try.mixed Try.func51 rfl rfl rfl rfl fun κ xc hκ => hκ.run 300 ?_
  simp (disch := omega) only [push_cast, simprocAttr, cec]
  refine hκ.draw (.q 0 (.q 1 (.q 2 (.q 3 (.q 4 (.q 5 (.q 6 (.l 7 [] (.l 8 [] (.fin)))))))))) [0, 1, 2, 3, 4, 5, 6] (by kernel_rfl) (by kernel_rfl) rfl ?_
  simp (disch := omega) only [push_cast, simprocAttr, cec]
  refine DCall.of (Does.E hκ.hP hκ.hgl _ (fun i => if i = 2 then 2 else if i = 3 then 3 else i) [0, 1, 2, 3] _ _ (small2E (ec a) _ 20 21 (ec_bnd _ _) (a.1 20) (a.1 21) rfl rfl _ cap (by have := len_ok; first | omega | (simp only [e1_len]; omega)) hcap) (by rfl) ⟨trivial, by simp [SV.bnd, SV.bndL], by simp [SV.bnd, SV.bndL]⟩ (by first | assumption | exact ec_bnd _ _ | (simp [SV.bnd, SV.bndL]; done)) (by decide) (by intro i hi; (repeat (first | omega | (dsimp only [id]; omega) | split))) (by intro i j; (repeat (first | omega | (dsimp only [id]; omega) | split))) (by repeat' (first | exact HeapIn.nil | refine HeapIn.cons (by decide) (by first | exact Blk.bnd_own0 (by assumption) | exact ec_bnd _ _ | (simp [Blk.bnd, SV.bnd, SV.bndL]; done)) (by simp) (by first | rfl | (rw [Blk.ren_own0 (by assumption)]; rfl)) ?_)) ?_)
  intro cap1 hc1
  simp only [renH, Blk.ren, SV.renL, SV.ren, tau, without, List.mem_singleton, List.mem_cons, List.not_mem_nil, or_false, or_true, true_or, Nat.reduceEqDiff, Nat.reduceLT, Nat.zero_lt_one, Nat.one_ne_zero, Nat.zero_ne_one, Nat.zero_lt_succ, ↓reduceIte, List.cons_append, List.nil_append, List.append_nil, id]
  simp (disch := omega) only [push_cast, simprocAttr, cec]
  refine hκ.run 300 ?_
  simp (disch := omega) only [push_cast, simprocAttr, cec]
  refine hκ.ret _ _ _ _ _ _ trivial rfl ?_
  exact Post.E (j := 4) (ec_bnd _ _) trivial (by decide) (by decide)  hc1 (by first | rfl | (simp [dropL, Heap.get ]; done)) (by first | rfl | (simp [dropL, Heap.get, ec ]; done)) (by first | rfl | (simp [dropL, Heap.get ]; done))
theorem change10E (a : Evt) (h15 : a.1 15 = 10) (s : Out) (cap : Nat) (hs : s.1.length < 2 ^ 40) (hcap : s.1.length ≤ cap) :
    Con Try.prog gl0 (fnv 51) [.ptr 0 0 0 0, .ptr 1 0 0 15] 3 [(0, CaE 2 cap s), (1, .own (ec a) 37), (2, RowB cap s)] (RetE (eLs a s [85, 80]) (ec a) 37 3 (Bo true)) := by
  have len_ok := hs
  have cec : cut (ec a) 15 1 = some [I (a.1 15)] := rfl
  rw [h15] at cec
  refine Con.of Try.ok51 (nt := 117) (res := [.tmp 4]) Try.mixed Try.func51 rfl rfl rfl rfl fun κ xc hκ => hκ.run 300 ?_
  simp (disch := omega) only [push_cast, simprocAttr, cec]
  refine hκ.draw (.q 0 (.q 1 (.q 2 (.q 3 (.q 4 (.q 5 (.q 6 (.l 7 [] (.l 8 [] (.fin)))))))))) [0, 1, 2, 3, 4, 5, 6] (by kernel_rfl) (by kernel_rfl) rfl ?_
  simp (disch := omega) only [push_cast, simprocAttr, cec]
  refine DCall.of (Does.E hκ.hP hκ.hgl _ (fun i => if i = 2 then 2 else if i = 3 then 3 else i) [0, 1, 2, 3] _ _ (small2E (ec a) _ 19 20 (ec_bnd _ _) (a.1 19) (a.1 20) rfl rfl _ cap (by have := len_ok; first | omega | (simp only [e1_len]; omega)) hcap) (by rfl) ⟨trivial, by simp [SV.bnd, SV.bndL], by simp [SV.bnd, SV.bndL]⟩ (by first | assumption | exact ec_bnd _ _ | (simp [SV.bnd, SV.bndL]; done)) (by decide) (by intro i hi; (repeat (first | omega | (dsimp only [id]; omega) | split))) (by intro i j; (repeat (first | omega | (dsimp only [id]; omega) | split))) (by repeat' (first | exact HeapIn.nil | refine HeapIn.cons (by decide) (by first | exact Blk.bnd_own0 (by assumption) | exact ec_bnd _ _ | (simp [Blk.bnd, SV.bnd, SV.bndL]; done)) (by simp) (by first | rfl | (rw [Blk.ren_own0 (by assumption)]; rfl)) ?_)) ?_)
  intro cap1 hc1
  simp only [renH, Blk.ren, SV.renL, SV.ren, tau, without, List.mem_singleton, List.mem_cons, List.not_mem_nil, or_false, or_true, true_or, Nat.reduceEqDiff, Nat.reduceLT, Nat.zero_lt_one, Nat.one_ne_zero, Nat.zero_ne_one, Nat.zero_lt_succ, ↓reduceIte, List.cons_append, List.nil_append, List.append_nil, id]
  simp (disch := omega) only [push_cast, simprocAttr, cec]
  refine hκ.run 300 ?_
  simp (disch := omega) only [push_cast, simprocAttr, cec]
  refine hκ.ret _ _ _ _ _ _ trivial rfl ?_
  exact Post.E (j := 4) (ec_bnd _ _) trivial (by decide) (by decide)  hc1 (by first | rfl | (simp [dropL, Heap.get ]; done)) (by first | rfl | (simp [dropL, Heap.get, ec ]; done)) (by first | rfl | (simp [dropL, Heap.get ]; done))
end Go.Proofs.Ytmieikflcolbaaa

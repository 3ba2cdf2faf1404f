/- What each kind of calls and changes carries: from bytes. No condition. Printed by gen_d.py. -/
import Derived.Test.YtmieikflcolbaaaFd
namespace Go.Proofs.Ytmieikflcolbaaa
open Go Go.Sy
set_option maxRecDepth 100000
set_option linter.unusedSimpArgs false
set_option linter.unusedVariables false
theorem createD (bs : List Int) (s : In) (a : Evt) (hs : s.bad = false) (hw : s.wk ≤ bs.length) (hn : bs.length < 2 ^ 46) (hby : ∀ b ∈ bs, 0 ≤ b ∧ b < 256) :
    Con Try.prog gl0 (fnv 60) [.ptr 0 0 0 0, .ptr 1 0 0 1] 3 (HD bs s (ec a) 37) (RetD bs (dLs bs (s, a) [100, 119, 99, 113]).1 (ec (dLs bs (s, a) [100, 119, 99, 113]).2) 37 3 vd) := by
  refine Con.of Try.ok60 (nt := 30) (res := []) Try.mixed Try.func60 rfl rfl rfl rfl fun κ xc hκ => hκ.run 300 ?_
  simp (disch := omega) only [push_cast, simprocAttr]
  refine (Does.D hκ.hP hκ.hgl _ (fun i => if i = 3 then 3 else i) [0, 1, 2, 3] _ _ (small1D bs (s) (ec a) (ec (upd a 9 (numR bs (s).wk (s).er 1))) _ 9 (ec_bnd _ _) (ec_bnd _ _) rfl (by repeat (first | exact hw | apply rdS_wk | apply listS_wk)) hn hby) (by rfl) ⟨trivial, by simp [SV.bnd, SV.bndL], by simp [SV.bnd, SV.bndL]⟩ (by first | assumption | exact ec_bnd _ _ | (simp [SV.bnd, SV.bndL]; done)) (by decide) (by intro i hi; (repeat (first | omega | (dsimp only [id]; omega) | split))) (by intro i j; (repeat (first | omega | (dsimp only [id]; omega) | split))) (by repeat' (first | exact HeapIn.nil | refine HeapIn.cons (by decide) (by first | exact Blk.bnd_own0 (by assumption) | exact ec_bnd _ _ | (simp [Blk.bnd, SV.bnd, SV.bndL]; done)) (by simp) (by first | rfl | (rw [Blk.ren_own0 (by assumption)]; rfl)) ?_)) ?_)
  simp only [renH, Blk.ren, SV.renL, SV.ren, tau, without, List.mem_singleton, List.mem_cons, List.not_mem_nil, or_false, or_true, true_or, Nat.reduceEqDiff, Nat.reduceLT, Nat.zero_lt_one, Nat.one_ne_zero, Nat.zero_ne_one, Nat.zero_lt_succ, ↓reduceIte, List.cons_append, List.nil_append, List.append_nil, id]
  refine hκ.run 300 ?_
  simp (disch := omega) only [push_cast, simprocAttr]
  refine (Does.D hκ.hP hκ.hgl _ (id) [0, 1, 2] _ _ (oneBD bs (rdS bs 1 (s)) (ec (upd a 9 (numR bs (s).wk (s).er 1))) (ec (upd (upd a 9 (numR bs (s).wk (s).er 1)) 10 (numR bs (rdS bs 1 (s)).wk (rdS bs 1 (s)).er 2))) _ 10 (ec_bnd _ _) (ec_bnd _ _) rfl (by repeat (first | exact hw | apply rdS_wk | apply listS_wk)) hn hby) (by rfl) ⟨trivial, by simp [SV.bnd, SV.bndL], by simp [SV.bnd, SV.bndL]⟩ (by first | assumption | exact ec_bnd _ _ | (simp [SV.bnd, SV.bndL]; done)) (by decide) (by intro i hi; (repeat (first | omega | (dsimp only [id]; omega) | split))) (by intro i j; (repeat (first | omega | (dsimp only [id]; omega) | split))) (by repeat' (first | exact HeapIn.nil | refine HeapIn.cons (by decide) (by first | exact Blk.bnd_own0 (by assumption) | exact ec_bnd _ _ | (simp [Blk.bnd, SV.bnd, SV.bndL]; done)) (by simp) (by first | rfl | (rw [Blk.ren_own0 (by assumption)]; rfl)) ?_)) ?_)
  simp only [renH, Blk.ren, SV.renL, SV.ren, tau, without, List.mem_singleton, List.mem_cons, List.not_mem_nil, or_false, or_true, true_or, Nat.reduceEqDiff, Nat.reduceLT, Nat.zero_lt_one, Nat.one_ne_zero, Nat.zero_ne_one, Nat.zero_lt_succ, ↓reduceIte, List.cons_append, List.nil_append, List.append_nil, id]
  refine hκ.run 300 ?_
  simp (disch := omega) only [push_cast, simprocAttr]
  refine (Does.D hκ.hP hκ.hgl _ (id) [0, 1, 2] _ _ (oneBD bs (rdS bs 2 (rdS bs 1 (s))) (ec (upd (upd a 9 (numR bs (s).wk (s).er 1)) 10 (numR bs (rdS bs 1 (s)).wk (rdS bs 1 (s)).er 2))) (ec (upd (upd (upd a 9 (numR bs (s).wk (s).er 1)) 10 (numR bs (rdS bs 1 (s)).wk (rdS bs 1 (s)).er 2)) 11 (numR bs (rdS bs 2 (rdS bs 1 (s))).wk (rdS bs 2 (rdS bs 1 (s))).er 2))) _ 11 (ec_bnd _ _) (ec_bnd _ _) rfl (by repeat (first | exact hw | apply rdS_wk | apply listS_wk)) hn hby) (by rfl) ⟨trivial, by simp [SV.bnd, SV.bndL], by simp [SV.bnd, SV.bndL]⟩ (by first | assumption | exact ec_bnd _ _ | (simp [SV.bnd, SV.bndL]; done)) (by decide) (by intro i hi; (repeat (first | omega | (dsimp only [id]; omega) | split))) (by intro i j; (repeat (first | omega | (dsimp only [id]; omega) | split))) (by repeat' (first | exact HeapIn.nil | refine HeapIn.cons (by decide) (by first | exact Blk.bnd_own0 (by assumption) | exact ec_bnd _ _ | (simp [Blk.bnd, SV.bnd, SV.bndL]; done)) (by simp) (by first | rfl | (rw [Blk.ren_own0 (by assumption)]; rfl)) ?_)) ?_)
  simp only [renH, Blk.ren, SV.renL, SV.ren, tau, without, List.mem_singleton, List.mem_cons, List.not_mem_nil, or_false, or_true, true_or, Nat.reduceEqDiff, Nat.reduceLT, Nat.zero_lt_one, Nat.one_ne_zero, Nat.zero_ne_one, Nat.zero_lt_succ, ↓reduceIte, List.cons_append, List.nil_append, List.append_nil, id]
  refine hκ.run 300 ?_
  simp (disch := omega) only [push_cast, simprocAttr]
  refine (Does.D hκ.hP hκ.hgl _ (fun i => if i = 3 then 4 else i) [0, 1, 2, 4] _ _ (small1D bs (rdS bs 2 (rdS bs 2 (rdS bs 1 (s)))) (ec (upd (upd (upd a 9 (numR bs (s).wk (s).er 1)) 10 (numR bs (rdS bs 1 (s)).wk (rdS bs 1 (s)).er 2)) 11 (numR bs (rdS bs 2 (rdS bs 1 (s))).wk (rdS bs 2 (rdS bs 1 (s))).er 2))) (ec (upd (upd (upd (upd a 9 (numR bs (s).wk (s).er 1)) 10 (numR bs (rdS bs 1 (s)).wk (rdS bs 1 (s)).er 2)) 11 (numR bs (rdS bs 2 (rdS bs 1 (s))).wk (rdS bs 2 (rdS bs 1 (s))).er 2)) 12 (numR bs (rdS bs 2 (rdS bs 2 (rdS bs 1 (s)))).wk (rdS bs 2 (rdS bs 2 (rdS bs 1 (s)))).er 1))) _ 12 (ec_bnd _ _) (ec_bnd _ _) rfl (by repeat (first | exact hw | apply rdS_wk | apply listS_wk)) hn hby) (by rfl) ⟨trivial, by simp [SV.bnd, SV.bndL], by simp [SV.bnd, SV.bndL]⟩ (by first | assumption | exact ec_bnd _ _ | (simp [SV.bnd, SV.bndL]; done)) (by decide) (by intro i hi; (repeat (first | omega | (dsimp only [id]; omega) | split))) (by intro i j; (repeat (first | omega | (dsimp only [id]; omega) | split))) (by repeat' (first | exact HeapIn.nil | refine HeapIn.cons (by decide) (by first | exact Blk.bnd_own0 (by assumption) | exact ec_bnd _ _ | (simp [Blk.bnd, SV.bnd, SV.bndL]; done)) (by simp) (by first | rfl | (rw [Blk.ren_own0 (by assumption)]; rfl)) ?_)) ?_)
  simp only [renH, Blk.ren, SV.renL, SV.ren, tau, without, List.mem_singleton, List.mem_cons, List.not_mem_nil, or_false, or_true, true_or, Nat.reduceEqDiff, Nat.reduceLT, Nat.zero_lt_one, Nat.one_ne_zero, Nat.zero_ne_one, Nat.zero_lt_succ, ↓reduceIte, List.cons_append, List.nil_append, List.append_nil, id]
  refine hκ.run 300 ?_
  simp (disch := omega) only [push_cast, simprocAttr]
  refine hκ.fin _ _ _ _ _ trivial rfl ?_
  exact Post.D (ec_bnd _ _) trivial (by decide) (by first | rfl | (simp [dropL, Heap.get]; done)) (by first | rfl | (simp [dropL, Heap.get, ec]; done)) (by first | rfl | (simp [dropL, Heap.get]; done))
theorem destroyD (bs : List Int) (s : In) (a : Evt) (hs : s.bad = false) (hw : s.wk ≤ bs.length) (hn : bs.length < 2 ^ 46) (hby : ∀ b ∈ bs, 0 ≤ b ∧ b < 256) :
    Con Try.prog gl0 (fnv 61) [.ptr 0 0 0 0, .ptr 1 0 0 1] 3 (HD bs s (ec a) 37) (RetD bs (dLs bs (s, a) [100]).1 (ec (dLs bs (s, a) [100]).2) 37 3 vd) := by
  refine Con.of Try.ok61 (nt := 11) (res := []) Try.mixed Try.func61 rfl rfl rfl rfl fun κ xc hκ => hκ.run 300 ?_
  simp (disch := omega) only [push_cast, simprocAttr]
  refine (Does.D hκ.hP hκ.hgl _ (fun i => if i = 3 then 3 else i) [0, 1, 2, 3] _ _ (small1D bs (s) (ec a) (ec (upd a 9 (numR bs (s).wk (s).er 1))) _ 9 (ec_bnd _ _) (ec_bnd _ _) rfl (by repeat (first | exact hw | apply rdS_wk | apply listS_wk)) hn hby) (by rfl) ⟨trivial, by simp [SV.bnd, SV.bndL], by simp [SV.bnd, SV.bndL]⟩ (by first | assumption | exact ec_bnd _ _ | (simp [SV.bnd, SV.bndL]; done)) (by decide) (by intro i hi; (repeat (first | omega | (dsimp only [id]; omega) | split))) (by intro i j; (repeat (first | omega | (dsimp only [id]; omega) | split))) (by repeat' (first | exact HeapIn.nil | refine HeapIn.cons (by decide) (by first | exact Blk.bnd_own0 (by assumption) | exact ec_bnd _ _ | (simp [Blk.bnd, SV.bnd, SV.bndL]; done)) (by simp) (by first | rfl | (rw [Blk.ren_own0 (by assumption)]; rfl)) ?_)) ?_)
  simp only [renH, Blk.ren, SV.renL, SV.ren, tau, without, List.mem_singleton, List.mem_cons, List.not_mem_nil, or_false, or_true, true_or, Nat.reduceEqDiff, Nat.reduceLT, Nat.zero_lt_one, Nat.one_ne_zero, Nat.zero_ne_one, Nat.zero_lt_succ, ↓reduceIte, List.cons_append, List.nil_append, List.append_nil, id]
  refine hκ.run 300 ?_
  simp (disch := omega) only [push_cast, simprocAttr]
  refine hκ.fin _ _ _ _ _ trivial rfl ?_
  exact Post.D (ec_bnd _ _) trivial (by decide) (by first | rfl | (simp [dropL, Heap.get]; done)) (by first | rfl | (simp [dropL, Heap.get, ec]; done)) (by first | rfl | (simp [dropL, Heap.get]; done))
theorem addD (bs : List Int) (s : In) (a : Evt) (hs : s.bad = false) (hw : s.wk ≤ bs.length) (hn : bs.length < 2 ^ 46) (hby : ∀ b ∈ bs, 0 ≤ b ∧ b < 256) :
    Con Try.prog gl0 (fnv 62) [.ptr 0 0 0 0, .ptr 1 0 0 1] 3 (HD bs s (ec a) 37) (RetD bs (dLs bs (s, a) [100, 109]).1 (ec (dLs bs (s, a) [100, 109]).2) 37 3 vd) := by
  refine Con.of Try.ok62 (nt := 16) (res := []) Try.mixed Try.func62 rfl rfl rfl rfl fun κ xc hκ => hκ.run 300 ?_
  simp (disch := omega) only [push_cast, simprocAttr]
  refine (Does.D hκ.hP hκ.hgl _ (fun i => if i = 3 then 3 else i) [0, 1, 2, 3] _ _ (small1D bs (s) (ec a) (ec (upd a 9 (numR bs (s).wk (s).er 1))) _ 9 (ec_bnd _ _) (ec_bnd _ _) rfl (by repeat (first | exact hw | apply rdS_wk | apply listS_wk)) hn hby) (by rfl) ⟨trivial, by simp [SV.bnd, SV.bndL], by simp [SV.bnd, SV.bndL]⟩ (by first | assumption | exact ec_bnd _ _ | (simp [SV.bnd, SV.bndL]; done)) (by decide) (by intro i hi; (repeat (first | omega | (dsimp only [id]; omega) | split))) (by intro i j; (repeat (first | omega | (dsimp only [id]; omega) | split))) (by repeat' (first | exact HeapIn.nil | refine HeapIn.cons (by decide) (by first | exact Blk.bnd_own0 (by assumption) | exact ec_bnd _ _ | (simp [Blk.bnd, SV.bnd, SV.bndL]; done)) (by simp) (by first | rfl | (rw [Blk.ren_own0 (by assumption)]; rfl)) ?_)) ?_)
  simp only [renH, Blk.ren, SV.renL, SV.ren, tau, without, List.mem_singleton, List.mem_cons, List.not_mem_nil, or_false, or_true, true_or, Nat.reduceEqDiff, Nat.reduceLT, Nat.zero_lt_one, Nat.one_ne_zero, Nat.zero_ne_one, Nat.zero_lt_succ, ↓reduceIte, List.cons_append, List.nil_append, List.append_nil, id]
  refine hκ.run 300 ?_
  simp (disch := omega) only [push_cast, simprocAttr]
  refine (Does.D hκ.hP hκ.hgl _ (id) [0, 1, 2] _ _ (maskCD bs (rdS bs 1 (s)) (upd a 9 (numR bs (s).wk (s).er 1)) (by repeat (first | exact hw | apply rdS_wk | apply listS_wk)) hn hby) (by rfl) ⟨trivial, by simp [SV.bnd, SV.bndL], by simp [SV.bnd, SV.bndL]⟩ (by first | assumption | exact ec_bnd _ _ | (simp [SV.bnd, SV.bndL]; done)) (by decide) (by intro i hi; (repeat (first | omega | (dsimp only [id]; omega) | split))) (by intro i j; (repeat (first | omega | (dsimp only [id]; omega) | split))) (by repeat' (first | exact HeapIn.nil | refine HeapIn.cons (by decide) (by first | exact Blk.bnd_own0 (by assumption) | exact ec_bnd _ _ | (simp [Blk.bnd, SV.bnd, SV.bndL]; done)) (by simp) (by first | rfl | (rw [Blk.ren_own0 (by assumption)]; rfl)) ?_)) ?_)
  simp only [renH, Blk.ren, SV.renL, SV.ren, tau, without, List.mem_singleton, List.mem_cons, List.not_mem_nil, or_false, or_true, true_or, Nat.reduceEqDiff, Nat.reduceLT, Nat.zero_lt_one, Nat.one_ne_zero, Nat.zero_ne_one, Nat.zero_lt_succ, ↓reduceIte, List.cons_append, List.nil_append, List.append_nil, id]
  refine hκ.run 300 ?_
  simp (disch := omega) only [push_cast, simprocAttr]
  refine hκ.fin _ _ _ _ _ trivial rfl ?_
  exact Post.D (ec_bnd _ _) trivial (by decide) (by first | rfl | (simp [dropL, Heap.get]; done)) (by first | rfl | (simp [dropL, Heap.get, ec]; done)) (by first | rfl | (simp [dropL, Heap.get]; done))
theorem pollD (bs : List Int) (s : In) (a : Evt) (hs : s.bad = false) (hw : s.wk ≤ bs.length) (hn : bs.length < 2 ^ 46) (hby : ∀ b ∈ bs, 0 ≤ b ∧ b < 256) :
    Con Try.prog gl0 (fnv 63) [.ptr 0 0 0 0, .ptr 1 0 0 1] 3 (HD bs s (ec a) 37) (RetD bs (dLs bs (s, a) [118, 110, 97]).1 (ec (dLs bs (s, a) [118, 110, 97]).2) 37 3 vd) := by
  refine Con.of Try.ok63 (nt := 20) (res := []) Try.mixed Try.func63 rfl rfl rfl rfl fun κ xc hκ => hκ.run 300 ?_
  simp (disch := omega) only [push_cast, simprocAttr]
  refine (Does.D hκ.hP hκ.hgl _ (fun i => if i = 3 then 3 else i) [0, 1, 2, 3] _ _ (small1D bs (s) (ec a) (ec (upd a 2 (numR bs (s).wk (s).er 1))) _ 2 (ec_bnd _ _) (ec_bnd _ _) rfl (by repeat (first | exact hw | apply rdS_wk | apply listS_wk)) hn hby) (by rfl) ⟨trivial, by simp [SV.bnd, SV.bndL], by simp [SV.bnd, SV.bndL]⟩ (by first | assumption | exact ec_bnd _ _ | (simp [SV.bnd, SV.bndL]; done)) (by decide) (by intro i hi; (repeat (first | omega | (dsimp only [id]; omega) | split))) (by intro i j; (repeat (first | omega | (dsimp only [id]; omega) | split))) (by repeat' (first | exact HeapIn.nil | refine HeapIn.cons (by decide) (by first | exact Blk.bnd_own0 (by assumption) | exact ec_bnd _ _ | (simp [Blk.bnd, SV.bnd, SV.bndL]; done)) (by simp) (by first | rfl | (rw [Blk.ren_own0 (by assumption)]; rfl)) ?_)) ?_)
  simp only [renH, Blk.ren, SV.renL, SV.ren, tau, without, List.mem_singleton, List.mem_cons, List.not_mem_nil, or_false, or_true, true_or, Nat.reduceEqDiff, Nat.reduceLT, Nat.zero_lt_one, Nat.one_ne_zero, Nat.zero_ne_one, Nat.zero_lt_succ, ↓reduceIte, List.cons_append, List.nil_append, List.append_nil, id]
  refine hκ.run 300 ?_
  simp (disch := omega) only [push_cast, simprocAttr]
  refine (Does.D hκ.hP hκ.hgl _ (id) [0, 1, 2] _ _ (listCD bs (rdS bs 1 (s)) (upd a 2 (numR bs (s).wk (s).er 1)) (by exact hs) (by repeat (first | exact hw | apply rdS_wk | apply listS_wk)) hn hby) (by rfl) ⟨trivial, by simp [SV.bnd, SV.bndL], by simp [SV.bnd, SV.bndL]⟩ (by first | assumption | exact ec_bnd _ _ | (simp [SV.bnd, SV.bndL]; done)) (by decide) (by intro i hi; (repeat (first | omega | (dsimp only [id]; omega) | split))) (by intro i j; (repeat (first | omega | (dsimp only [id]; omega) | split))) (by repeat' (first | exact HeapIn.nil | refine HeapIn.cons (by decide) (by first | exact Blk.bnd_own0 (by assumption) | exact ec_bnd _ _ | (simp [Blk.bnd, SV.bnd, SV.bndL]; done)) (by simp) (by first | rfl | (rw [Blk.ren_own0 (by assumption)]; rfl)) ?_)) ?_)
  simp only [renH, Blk.ren, SV.renL, SV.ren, tau, without, List.mem_singleton, List.mem_cons, List.not_mem_nil, or_false, or_true, true_or, Nat.reduceEqDiff, Nat.reduceLT, Nat.zero_lt_one, Nat.one_ne_zero, Nat.zero_ne_one, Nat.zero_lt_succ, ↓reduceIte, List.cons_append, List.nil_append, List.append_nil, id]
  refine hκ.run 300 ?_
  simp (disch := omega) only [push_cast, simprocAttr]
  refine (Does.D hκ.hP hκ.hgl _ (id) [0, 1, 2] _ _ (oneDD bs (listS bs (rdS bs 1 (s))) (ec (setL (upd a 2 (numR bs (s).wk (s).er 1)) (listL bs (rdS bs 1 (s))))) (ec (upd (setL (upd a 2 (numR bs (s).wk (s).er 1)) (listL bs (rdS bs 1 (s)))) 7 (IntKind.i64.wrap (numR bs (listS bs (rdS bs 1 (s))).wk (listS bs (rdS bs 1 (s))).er 8)))) _ 7 (ec_bnd _ _) (ec_bnd _ _) rfl (by repeat (first | exact hw | apply rdS_wk | apply listS_wk)) hn hby) (by rfl) ⟨trivial, by simp [SV.bnd, SV.bndL], by simp [SV.bnd, SV.bndL]⟩ (by first | assumption | exact ec_bnd _ _ | (simp [SV.bnd, SV.bndL]; done)) (by decide) (by intro i hi; (repeat (first | omega | (dsimp only [id]; omega) | split))) (by intro i j; (repeat (first | omega | (dsimp only [id]; omega) | split))) (by repeat' (first | exact HeapIn.nil | refine HeapIn.cons (by decide) (by first | exact Blk.bnd_own0 (by assumption) | exact ec_bnd _ _ | (simp [Blk.bnd, SV.bnd, SV.bndL]; done)) (by simp) (by first | rfl | (rw [Blk.ren_own0 (by assumption)]; rfl)) ?_)) ?_)
  simp only [renH, Blk.ren, SV.renL, SV.ren, tau, without, List.mem_singleton, List.mem_cons, List.not_mem_nil, or_false, or_true, true_or, Nat.reduceEqDiff, Nat.reduceLT, Nat.zero_lt_one, Nat.one_ne_zero, Nat.zero_ne_one, Nat.zero_lt_succ, ↓reduceIte, List.cons_append, List.nil_append, List.append_nil, id]
  refine hκ.run 300 ?_
  simp (disch := omega) only [push_cast, simprocAttr]
  refine hκ.fin _ _ _ _ _ trivial rfl ?_
  exact Post.D (ec_bnd _ _) trivial (by decide) (by first | rfl | (simp [dropL, Heap.get]; done)) (by first | rfl | (simp [dropL, Heap.get, ec]; done)) (by first | rfl | (simp [dropL, Heap.get]; done))
theorem linkD (bs : List Int) (s : In) (a : Evt) (hs : s.bad = false) (hw : s.wk ≤ bs.length) (hn : bs.length < 2 ^ 46) (hby : ∀ b ∈ bs, 0 ≤ b ∧ b < 256) :
    Con Try.prog gl0 (fnv 64) [.ptr 0 0 0 0, .ptr 1 0 0 1] 3 (HD bs s (ec a) 37) (RetD bs (dLs bs (s, a) [112, 111]).1 (ec (dLs bs (s, a) [112, 111]).2) 37 3 vd) := by
  refine Con.of Try.ok64 (nt := 13) (res := []) Try.mixed Try.func64 rfl rfl rfl rfl fun κ xc hκ => hκ.run 300 ?_
  simp (disch := omega) only [push_cast, simprocAttr]
  refine hκ.draw (.q 0 (.q 1 (.q 2 (.q 3 (.q 4 (.q 5 (.q 6 (.l 7 [] (.l 8 [] (.fin)))))))))) [0, 1, 2, 3, 4, 5, 6] (by kernel_rfl) (by kernel_rfl) rfl ?_
  simp (disch := omega) only [push_cast, simprocAttr]
  refine DCall.of (Does.D hκ.hP hκ.hgl _ (fun i => if i = 3 then 3 else i) [0, 1, 2, 3] _ _ (small2D bs (s) (ec a) (ec (upd a 3 (numR bs (s).wk (s).er 1))) (ec (upd (upd a 3 (numR bs (s).wk (s).er 1)) 4 (numR bs (rdS bs 1 (s)).wk (rdS bs 1 (s)).er 1))) _ 3 4 (ec_bnd _ _) (ec_bnd _ _) (ec_bnd _ _) rfl rfl (by repeat (first | exact hw | apply rdS_wk | apply listS_wk)) hn hby) (by rfl) ⟨trivial, by simp [SV.bnd, SV.bndL], by simp [SV.bnd, SV.bndL]⟩ (by first | assumption | exact ec_bnd _ _ | (simp [SV.bnd, SV.bndL]; done)) (by decide) (by intro i hi; (repeat (first | omega | (dsimp only [id]; omega) | split))) (by intro i j; (repeat (first | omega | (dsimp only [id]; omega) | split))) (by repeat' (first | exact HeapIn.nil | refine HeapIn.cons (by decide) (by first | exact Blk.bnd_own0 (by assumption) | exact ec_bnd _ _ | (simp [Blk.bnd, SV.bnd, SV.bndL]; done)) (by simp) (by first | rfl | (rw [Blk.ren_own0 (by assumption)]; rfl)) ?_)) ?_)
  simp only [renH, Blk.ren, SV.renL, SV.ren, tau, without, List.mem_singleton, List.mem_cons, List.not_mem_nil, or_false, or_true, true_or, Nat.reduceEqDiff, Nat.reduceLT, Nat.zero_lt_one, Nat.one_ne_zero, Nat.zero_ne_one, Nat.zero_lt_succ, ↓reduceIte, List.cons_append, List.nil_append, List.append_nil, id]
  simp (disch := omega) only [push_cast, simprocAttr]
  refine hκ.fin _ _ _ _ _ trivial rfl ?_
  exact Post.D (ec_bnd _ _) trivial (by decide) (by first | rfl | (simp [dropL, Heap.get]; done)) (by first | rfl | (simp [dropL, Heap.get, ec]; done)) (by first | rfl | (simp [dropL, Heap.get]; done))
theorem masksD (bs : List Int) (s : In) (a : Evt) (hs : s.bad = false) (hw : s.wk ≤ bs.length) (hn : bs.length < 2 ^ 46) (hby : ∀ b ∈ bs, 0 ≤ b ∧ b < 256) :
    Con Try.prog gl0 (fnv 65) [.ptr 0 0 0 0, .ptr 1 0 0 1] 3 (HD bs s (ec a) 37) (RetD bs (dLs bs (s, a) [112, 102]).1 (ec (dLs bs (s, a) [112, 102]).2) 37 3 vd) := by
  refine Con.of Try.ok65 (nt := 15) (res := []) Try.mixed Try.func65 rfl rfl rfl rfl fun κ xc hκ => hκ.run 300 ?_
  simp (disch := omega) only [push_cast, simprocAttr]
  refine (Does.D hκ.hP hκ.hgl _ (fun i => if i = 3 then 3 else i) [0, 1, 2, 3] _ _ (small1D bs (s) (ec a) (ec (upd a 3 (numR bs (s).wk (s).er 1))) _ 3 (ec_bnd _ _) (ec_bnd _ _) rfl (by repeat (first | exact hw | apply rdS_wk | apply listS_wk)) hn hby) (by rfl) ⟨trivial, by simp [SV.bnd, SV.bndL], by simp [SV.bnd, SV.bndL]⟩ (by first | assumption | exact ec_bnd _ _ | (simp [SV.bnd, SV.bndL]; done)) (by decide) (by intro i hi; (repeat (first | omega | (dsimp only [id]; omega) | split))) (by intro i j; (repeat (first | omega | (dsimp only [id]; omega) | split))) (by repeat' (first | exact HeapIn.nil | refine HeapIn.cons (by decide) (by first | exact Blk.bnd_own0 (by assumption) | exact ec_bnd _ _ | (simp [Blk.bnd, SV.bnd, SV.bndL]; done)) (by simp) (by first | rfl | (rw [Blk.ren_own0 (by assumption)]; rfl)) ?_)) ?_)
  simp only [renH, Blk.ren, SV.renL, SV.ren, tau, without, List.mem_singleton, List.mem_cons, List.not_mem_nil, or_false, or_true, true_or, Nat.reduceEqDiff, Nat.reduceLT, Nat.zero_lt_one, Nat.one_ne_zero, Nat.zero_ne_one, Nat.zero_lt_succ, ↓reduceIte, List.cons_append, List.nil_append, List.append_nil, id]
  refine hκ.run 300 ?_
  simp (disch := omega) only [push_cast, simprocAttr]
  refine (Does.D hκ.hP hκ.hgl _ (id) [0, 1, 2] _ _ (flagD bs (rdS bs 1 (s)) (upd a 3 (numR bs (s).wk (s).er 1)) (by repeat (first | exact hw | apply rdS_wk | apply listS_wk)) hn hby) (by rfl) ⟨trivial, by simp [SV.bnd, SV.bndL], by simp [SV.bnd, SV.bndL]⟩ (by first | assumption | exact ec_bnd _ _ | (simp [SV.bnd, SV.bndL]; done)) (by decide) (by intro i hi; (repeat (first | omega | (dsimp only [id]; omega) | split))) (by intro i j; (repeat (first | omega | (dsimp only [id]; omega) | split))) (by repeat' (first | exact HeapIn.nil | refine HeapIn.cons (by decide) (by first | exact Blk.bnd_own0 (by assumption) | exact ec_bnd _ _ | (simp [Blk.bnd, SV.bnd, SV.bndL]; done)) (by simp) (by first | rfl | (rw [Blk.ren_own0 (by assumption)]; rfl)) ?_)) ?_)
  simp only [renH, Blk.ren, SV.renL, SV.ren, tau, without, List.mem_singleton, List.mem_cons, List.not_mem_nil, or_false, or_true, true_or, Nat.reduceEqDiff, Nat.reduceLT, Nat.zero_lt_one, Nat.one_ne_zero, Nat.zero_ne_one, Nat.zero_lt_succ, ↓reduceIte, List.cons_append, List.nil_append, List.append_nil, id]
  refine hκ.run 300 ?_
  simp (disch := omega) only [push_cast, simprocAttr]
  refine hκ.fin _ _ _ _ _ trivial rfl ?_
  exact Post.D (ec_bnd _ _) trivial (by decide) (by first | rfl | (simp [dropL, Heap.get]; done)) (by first | rfl | (simp [dropL, Heap.get, ec]; done)) (by first | rfl | (simp [dropL, Heap.get]; done))
theorem bindD (bs : List Int) (s : In) (a : Evt) (hs : s.bad = false) (hw : s.wk ≤ bs.length) (hn : bs.length < 2 ^ 46) (hby : ∀ b ∈ bs, 0 ≤ b ∧ b < 256) :
    Con Try.prog gl0 (fnv 66) [.ptr 0 0 0 0, .ptr 1 0 0 1] 3 (HD bs s (ec a) 37) (RetD bs (dLs bs (s, a) [112, 118]).1 (ec (dLs bs (s, a) [112, 118]).2) 37 3 vd) := by
  refine Con.of Try.ok66 (nt := 13) (res := []) Try.mixed Try.func66 rfl rfl rfl rfl fun κ xc hκ => hκ.run 300 ?_
  simp (disch := omega) only [push_cast, simprocAttr]
  refine hκ.draw (.q 0 (.q 1 (.q 2 (.q 3 (.q 4 (.q 5 (.q 6 (.l 7 [] (.l 8 [] (.fin)))))))))) [0, 1, 2, 3, 4, 5, 6] (by kernel_rfl) (by kernel_rfl) rfl ?_
  simp (disch := omega) only [push_cast, simprocAttr]
  refine DCall.of (Does.D hκ.hP hκ.hgl _ (fun i => if i = 3 then 3 else i) [0, 1, 2, 3] _ _ (small2D bs (s) (ec a) (ec (upd a 3 (numR bs (s).wk (s).er 1))) (ec (upd (upd a 3 (numR bs (s).wk (s).er 1)) 2 (numR bs (rdS bs 1 (s)).wk (rdS bs 1 (s)).er 1))) _ 3 2 (ec_bnd _ _) (ec_bnd _ _) (ec_bnd _ _) rfl rfl (by repeat (first | exact hw | apply rdS_wk | apply listS_wk)) hn hby) (by rfl) ⟨trivial, by simp [SV.bnd, SV.bndL], by simp [SV.bnd, SV.bndL]⟩ (by first | assumption | exact ec_bnd _ _ | (simp [SV.bnd, SV.bndL]; done)) (by decide) (by intro i hi; (repeat (first | omega | (dsimp only [id]; omega) | split))) (by intro i j; (repeat (first | omega | (dsimp only [id]; omega) | split))) (by repeat' (first | exact HeapIn.nil | refine HeapIn.cons (by decide) (by first | exact Blk.bnd_own0 (by assumption) | exact ec_bnd _ _ | (simp [Blk.bnd, SV.bnd, SV.bndL]; done)) (by simp) (by first | rfl | (rw [Blk.ren_own0 (by assumption)]; rfl)) ?_)) ?_)
  simp only [renH, Blk.ren, SV.renL, SV.ren, tau, without, List.mem_singleton, List.mem_cons, List.not_mem_nil, or_false, or_true, true_or, Nat.reduceEqDiff, Nat.reduceLT, Nat.zero_lt_one, Nat.one_ne_zero, Nat.zero_ne_one, Nat.zero_lt_succ, ↓reduceIte, List.cons_append, List.nil_append, List.append_nil, id]
  simp (disch := omega) only [push_cast, simprocAttr]
  refine hκ.fin _ _ _ _ _ trivial rfl ?_
  exact Post.D (ec_bnd _ _) trivial (by decide) (by first | rfl | (simp [dropL, Heap.get]; done)) (by first | rfl | (simp [dropL, Heap.get, ec]; done)) (by first | rfl | (simp [dropL, Heap.get]; done))
theorem startD (bs : List Int) (s : In) (a : Evt) (hs : s.bad = false) (hw : s.wk ≤ bs.length) (hn : bs.length < 2 ^ 46) (hby : ∀ b ∈ bs, 0 ≤ b ∧ b < 256) :
    Con Try.prog gl0 (fnv 67) [.ptr 0 0 0 0, .ptr 1 0 0 1] 3 (HD bs s (ec a) 37) (RetD bs (dLs bs (s, a) [118, 112, 101, 97]).1 (ec (dLs bs (s, a) [118, 112, 101, 97]).2) 37 3 vd) := by
  refine Con.of Try.ok67 (nt := 23) (res := []) Try.mixed Try.func67 rfl rfl rfl rfl fun κ xc hκ => hκ.run 300 ?_
  simp (disch := omega) only [push_cast, simprocAttr]
  refine hκ.draw (.q 0 (.q 1 (.q 2 (.q 3 (.q 4 (.q 5 (.q 6 (.l 7 [] (.l 8 [] (.fin)))))))))) [0, 1, 2, 3, 4, 5, 6] (by kernel_rfl) (by kernel_rfl) rfl ?_
  simp (disch := omega) only [push_cast, simprocAttr]
  refine DCall.of (Does.D hκ.hP hκ.hgl _ (fun i => if i = 3 then 3 else i) [0, 1, 2, 3] _ _ (small2D bs (s) (ec a) (ec (upd a 2 (numR bs (s).wk (s).er 1))) (ec (upd (upd a 2 (numR bs (s).wk (s).er 1)) 3 (numR bs (rdS bs 1 (s)).wk (rdS bs 1 (s)).er 1))) _ 2 3 (ec_bnd _ _) (ec_bnd _ _) (ec_bnd _ _) rfl rfl (by repeat (first | exact hw | apply rdS_wk | apply listS_wk)) hn hby) (by rfl) ⟨trivial, by simp [SV.bnd, SV.bndL], by simp [SV.bnd, SV.bndL]⟩ (by first | assumption | exact ec_bnd _ _ | (simp [SV.bnd, SV.bndL]; done)) (by decide) (by intro i hi; (repeat (first | omega | (dsimp only [id]; omega) | split))) (by intro i j; (repeat (first | omega | (dsimp only [id]; omega) | split))) (by repeat' (first | exact HeapIn.nil | refine HeapIn.cons (by decide) (by first | exact Blk.bnd_own0 (by assumption) | exact ec_bnd _ _ | (simp [Blk.bnd, SV.bnd, SV.bndL]; done)) (by simp) (by first | rfl | (rw [Blk.ren_own0 (by assumption)]; rfl)) ?_)) ?_)
  simp only [renH, Blk.ren, SV.renL, SV.ren, tau, without, List.mem_singleton, List.mem_cons, List.not_mem_nil, or_false, or_true, true_or, Nat.reduceEqDiff, Nat.reduceLT, Nat.zero_lt_one, Nat.one_ne_zero, Nat.zero_ne_one, Nat.zero_lt_succ, ↓reduceIte, List.cons_append, List.nil_append, List.append_nil, id]
  simp (disch := omega) only [push_cast, simprocAttr]
  refine hκ.run 300 ?_
  simp (disch := omega) only [push_cast, simprocAttr]
  refine (Does.D hκ.hP hκ.hgl _ (id) [0, 1, 2] _ _ (oneDD bs (rdS bs 1 (rdS bs 1 (s))) (ec (upd (upd a 2 (numR bs (s).wk (s).er 1)) 3 (numR bs (rdS bs 1 (s)).wk (rdS bs 1 (s)).er 1))) (ec (upd (upd (upd a 2 (numR bs (s).wk (s).er 1)) 3 (numR bs (rdS bs 1 (s)).wk (rdS bs 1 (s)).er 1)) 8 (IntKind.i64.wrap (numR bs (rdS bs 1 (rdS bs 1 (s))).wk (rdS bs 1 (rdS bs 1 (s))).er 8)))) _ 8 (ec_bnd _ _) (ec_bnd _ _) rfl (by repeat (first | exact hw | apply rdS_wk | apply listS_wk)) hn hby) (by rfl) ⟨trivial, by simp [SV.bnd, SV.bndL], by simp [SV.bnd, SV.bndL]⟩ (by first | assumption | exact ec_bnd _ _ | (simp [SV.bnd, SV.bndL]; done)) (by decide) (by intro i hi; (repeat (first | omega | (dsimp only [id]; omega) | split))) (by intro i j; (repeat (first | omega | (dsimp only [id]; omega) | split))) (by repeat' (first | exact HeapIn.nil | refine HeapIn.cons (by decide) (by first | exact Blk.bnd_own0 (by assumption) | exact ec_bnd _ _ | (simp [Blk.bnd, SV.bnd, SV.bndL]; done)) (by simp) (by first | rfl | (rw [Blk.ren_own0 (by assumption)]; rfl)) ?_)) ?_)
  simp only [renH, Blk.ren, SV.renL, SV.ren, tau, without, List.mem_singleton, List.mem_cons, List.not_mem_nil, or_false, or_true, true_or, Nat.reduceEqDiff, Nat.reduceLT, Nat.zero_lt_one, Nat.one_ne_zero, Nat.zero_ne_one, Nat.zero_lt_succ, ↓reduceIte, List.cons_append, List.nil_append, List.append_nil, id]
  refine hκ.run 300 ?_
  simp (disch := omega) only [push_cast, simprocAttr]
  refine (Does.D hκ.hP hκ.hgl _ (id) [0, 1, 2] _ _ (oneDD bs (rdS bs 8 (rdS bs 1 (rdS bs 1 (s)))) (ec (upd (upd (upd a 2 (numR bs (s).wk (s).er 1)) 3 (numR bs (rdS bs 1 (s)).wk (rdS bs 1 (s)).er 1)) 8 (IntKind.i64.wrap (numR bs (rdS bs 1 (rdS bs 1 (s))).wk (rdS bs 1 (rdS bs 1 (s))).er 8)))) (ec (upd (upd (upd (upd a 2 (numR bs (s).wk (s).er 1)) 3 (numR bs (rdS bs 1 (s)).wk (rdS bs 1 (s)).er 1)) 8 (IntKind.i64.wrap (numR bs (rdS bs 1 (rdS bs 1 (s))).wk (rdS bs 1 (rdS bs 1 (s))).er 8))) 7 (IntKind.i64.wrap (numR bs (rdS bs 8 (rdS bs 1 (rdS bs 1 (s)))).wk (rdS bs 8 (rdS bs 1 (rdS bs 1 (s)))).er 8)))) _ 7 (ec_bnd _ _) (ec_bnd _ _) rfl (by repeat (first | exact hw | apply rdS_wk | apply listS_wk)) hn hby) (by rfl) ⟨trivial, by simp [SV.bnd, SV.bndL], by simp [SV.bnd, SV.bndL]⟩ (by first | assumption | exact ec_bnd _ _ | (simp [SV.bnd, SV.bndL]; done)) (by decide) (by intro i hi; (repeat (first | omega | (dsimp only [id]; omega) | split))) (by intro i j; (repeat (first | omega | (dsimp only [id]; omega) | split))) (by repeat' (first | exact HeapIn.nil | refine HeapIn.cons (by decide) (by first | exact Blk.bnd_own0 (by assumption) | exact ec_bnd _ _ | (simp [Blk.bnd, SV.bnd, SV.bndL]; done)) (by simp) (by first | rfl | (rw [Blk.ren_own0 (by assumption)]; rfl)) ?_)) ?_)
  simp only [renH, Blk.ren, SV.renL, SV.ren, tau, without, List.mem_singleton, List.mem_cons, List.not_mem_nil, or_false, or_true, true_or, Nat.reduceEqDiff, Nat.reduceLT, Nat.zero_lt_one, Nat.one_ne_zero, Nat.zero_ne_one, Nat.zero_lt_succ, ↓reduceIte, List.cons_append, List.nil_append, List.append_nil, id]
  refine hκ.run 300 ?_
  simp (disch := omega) only [push_cast, simprocAttr]
  refine hκ.fin _ _ _ _ _ trivial rfl ?_
  exact Post.D (ec_bnd _ _) trivial (by decide) (by first | rfl | (simp [dropL, Heap.get]; done)) (by first | rfl | (simp [dropL, Heap.get, ec]; done)) (by first | rfl | (simp [dropL, Heap.get]; done))
theorem vcpuD (bs : List Int) (s : In) (a : Evt) (hs : s.bad = false) (hw : s.wk ≤ bs.length) (hn : bs.length < 2 ^ 46) (hby : ∀ b ∈ bs, 0 ≤ b ∧ b < 256) :
    Con Try.prog gl0 (fnv 68) [.ptr 0 0 0 0, .ptr 1 0 0 1] 3 (HD bs s (ec a) 37) (RetD bs (dLs bs (s, a) [118]).1 (ec (dLs bs (s, a) [118]).2) 37 3 vd) := by
  refine Con.of Try.ok68 (nt := 10) (res := []) Try.mixed Try.func68 rfl rfl rfl rfl fun κ xc hκ => hκ.run 300 ?_
  simp (disch := omega) only [push_cast, simprocAttr]
  refine (Does.D hκ.hP hκ.hgl _ (fun i => if i = 3 then 3 else i) [0, 1, 2, 3] _ _ (small1D bs (s) (ec a) (ec (upd a 2 (numR bs (s).wk (s).er 1))) _ 2 (ec_bnd _ _) (ec_bnd _ _) rfl (by repeat (first | exact hw | apply rdS_wk | apply listS_wk)) hn hby) (by rfl) ⟨trivial, by simp [SV.bnd, SV.bndL], by simp [SV.bnd, SV.bndL]⟩ (by first | assumption | exact ec_bnd _ _ | (simp [SV.bnd, SV.bndL]; done)) (by decide) (by intro i hi; (repeat (first | omega | (dsimp only [id]; omega) | split))) (by intro i j; (repeat (first | omega | (dsimp only [id]; omega) | split))) (by repeat' (first | exact HeapIn.nil | refine HeapIn.cons (by decide) (by first | exact Blk.bnd_own0 (by assumption) | exact ec_bnd _ _ | (simp [Blk.bnd, SV.bnd, SV.bndL]; done)) (by simp) (by first | rfl | (rw [Blk.ren_own0 (by assumption)]; rfl)) ?_)) ?_)
  simp only [renH, Blk.ren, SV.renL, SV.ren, tau, without, List.mem_singleton, List.mem_cons, List.not_mem_nil, or_false, or_true, true_or, Nat.reduceEqDiff, Nat.reduceLT, Nat.zero_lt_one, Nat.one_ne_zero, Nat.zero_ne_one, Nat.zero_lt_succ, ↓reduceIte, List.cons_append, List.nil_append, List.append_nil, id]
  refine hκ.run 300 ?_
  simp (disch := omega) only [push_cast, simprocAttr]
  refine hκ.fin _ _ _ _ _ trivial rfl ?_
  exact Post.D (ec_bnd _ _) trivial (by decide) (by first | rfl | (simp [dropL, Heap.get]; done)) (by first | rfl | (simp [dropL, Heap.get, ec]; done)) (by first | rfl | (simp [dropL, Heap.get]; done))
theorem portD (bs : List Int) (s : In) (a : Evt) (hs : s.bad = false) (hw : s.wk ≤ bs.length) (hn : bs.length < 2 ^ 46) (hby : ∀ b ∈ bs, 0 ≤ b ∧ b < 256) :
    Con Try.prog gl0 (fnv 69) [.ptr 0 0 0 0, .ptr 1 0 0 1] 3 (HD bs s (ec a) 37) (RetD bs (dLs bs (s, a) [112]).1 (ec (dLs bs (s, a) [112]).2) 37 3 vd) := by
  refine Con.of Try.ok69 (nt := 10) (res := []) Try.mixed Try.func69 rfl rfl rfl rfl fun κ xc hκ => hκ.run 300 ?_
  simp (disch := omega) only [push_cast, simprocAttr]
  refine (Does.D hκ.hP hκ.hgl _ (fun i => if i = 3 then 3 else i) [0, 1, 2, 3] _ _ (small1D bs (s) (ec a) (ec (upd a 3 (numR bs (s).wk (s).er 1))) _ 3 (ec_bnd _ _) (ec_bnd _ _) rfl (by repeat (first | exact hw | apply rdS_wk | apply listS_wk)) hn hby) (by rfl) ⟨trivial, by simp [SV.bnd, SV.bndL], by simp [SV.bnd, SV.bndL]⟩ (by first | assumption | exact ec_bnd _ _ | (simp [SV.bnd, SV.bndL]; done)) (by decide) (by intro i hi; (repeat (first | omega | (dsimp only [id]; omega) | split))) (by intro i j; (repeat (first | omega | (dsimp only [id]; omega) | split))) (by repeat' (first | exact HeapIn.nil | refine HeapIn.cons (by decide) (by first | exact Blk.bnd_own0 (by assumption) | exact ec_bnd _ _ | (simp [Blk.bnd, SV.bnd, SV.bndL]; done)) (by simp) (by first | rfl | (rw [Blk.ren_own0 (by assumption)]; rfl)) ?_)) ?_)
  simp only [renH, Blk.ren, SV.renL, SV.ren, tau, without, List.mem_singleton, List.mem_cons, List.not_mem_nil, or_false, or_true, true_or, Nat.reduceEqDiff, Nat.reduceLT, Nat.zero_lt_one, Nat.one_ne_zero, Nat.zero_ne_one, Nat.zero_lt_succ, ↓reduceIte, List.cons_append, List.nil_append, List.append_nil, id]
  refine hκ.run 300 ?_
  simp (disch := omega) only [push_cast, simprocAttr]
  refine hκ.fin _ _ _ _ _ trivial rfl ?_
  exact Post.D (ec_bnd _ _) trivial (by decide) (by first | rfl | (simp [dropL, Heap.get]; done)) (by first | rfl | (simp [dropL, Heap.get, ec]; done)) (by first | rfl | (simp [dropL, Heap.get]; done))
theorem change1D (bs : List Int) (s : In) (a : Evt) (hs : s.bad = false) (h15 : a.1 15 = 1) (hw : s.wk ≤ bs.length) (hn : bs.length < 2 ^ 46) (hby : ∀ b ∈ bs, 0 ≤ b ∧ b < 256) :
    Con Try.prog gl0 (fnv 51) [.ptr 0 0 0 0, .ptr 1 0 0 15] 3 (HD bs s (ec a) 37) (RetD bs (dLs bs (s, a) [68, 87]).1 (ec (dLs bs (s, a) [68, 87]).2) 37 3 (Bo true)) := by
  have cec : cut (ec a) 15 1 = some [I (a.1 15)] := rfl
  rw [h15] at cec
  refine Con.of Try.ok51 (nt := 117) (res := [.tmp 4]) Try.mixed Try.func51 rfl rfl rfl rfl fun κ xc hκ => hκ.run 300 ?_
  simp (disch := omega) only [push_cast, simprocAttr, cec]
  refine (Does.D hκ.hP hκ.hgl _ (fun i => if i = 3 then 3 else i) [0, 1, 2, 3] _ _ (small1D bs (s) (ec a) (ec (upd a 16 (numR bs (s).wk (s).er 1))) _ 16 (ec_bnd _ _) (ec_bnd _ _) rfl (by repeat (first | exact hw | apply rdS_wk | apply listS_wk)) hn hby) (by rfl) ⟨trivial, by simp [SV.bnd, SV.bndL], by simp [SV.bnd, SV.bndL]⟩ (by first | assumption | exact ec_bnd _ _ | (simp [SV.bnd, SV.bndL]; done)) (by decide) (by intro i hi; (repeat (first | omega | (dsimp only [id]; omega) | split))) (by intro i j; (repeat (first | omega | (dsimp only [id]; omega) | split))) (by repeat' (first | exact HeapIn.nil | refine HeapIn.cons (by decide) (by first | exact Blk.bnd_own0 (by assumption) | exact ec_bnd _ _ | (simp [Blk.bnd, SV.bnd, SV.bndL]; done)) (by simp) (by first | rfl | (rw [Blk.ren_own0 (by assumption)]; rfl)) ?_)) ?_)
  simp only [renH, Blk.ren, SV.renL, SV.ren, tau, without, List.mem_singleton, List.mem_cons, List.not_mem_nil, or_false, or_true, true_or, Nat.reduceEqDiff, Nat.reduceLT, Nat.zero_lt_one, Nat.one_ne_zero, Nat.zero_ne_one, Nat.zero_lt_succ, ↓reduceIte, List.cons_append, List.nil_append, List.append_nil, id]
  refine hκ.run 300 ?_
  simp (disch := omega) only [push_cast, simprocAttr, cec]
  refine (Does.D hκ.hP hκ.hgl _ (id) [0, 1, 2] _ _ (oneBD bs (rdS bs 1 (s)) (ec (upd a 16 (numR bs (s).wk (s).er 1))) (ec (upd (upd a 16 (numR bs (s).wk (s).er 1)) 22 (numR bs (rdS bs 1 (s)).wk (rdS bs 1 (s)).er 2))) _ 22 (ec_bnd _ _) (ec_bnd _ _) rfl (by repeat (first | exact hw | apply rdS_wk | apply listS_wk)) hn hby) (by rfl) ⟨trivial, by simp [SV.bnd, SV.bndL], by simp [SV.bnd, SV.bndL]⟩ (by first | assumption | exact ec_bnd _ _ | (simp [SV.bnd, SV.bndL]; done)) (by decide) (by intro i hi; (repeat (first | omega | (dsimp only [id]; omega) | split))) (by intro i j; (repeat (first | omega | (dsimp only [id]; omega) | split))) (by repeat' (first | exact HeapIn.nil | refine HeapIn.cons (by decide) (by first | exact Blk.bnd_own0 (by assumption) | exact ec_bnd _ _ | (simp [Blk.bnd, SV.bnd, SV.bndL]; done)) (by simp) (by first | rfl | (rw [Blk.ren_own0 (by assumption)]; rfl)) ?_)) ?_)
  simp only [renH, Blk.ren, SV.renL, SV.ren, tau, without, List.mem_singleton, List.mem_cons, List.not_mem_nil, or_false, or_true, true_or, Nat.reduceEqDiff, Nat.reduceLT, Nat.zero_lt_one, Nat.one_ne_zero, Nat.zero_ne_one, Nat.zero_lt_succ, ↓reduceIte, List.cons_append, List.nil_append, List.append_nil, id]
  refine hκ.run 300 ?_
  simp (disch := omega) only [push_cast, simprocAttr, cec]
  refine hκ.ret _ _ _ _ _ _ trivial rfl ?_
  exact Post.D (ec_bnd _ _) trivial (by decide) (by first | rfl | (simp [dropL, Heap.get]; done)) (by first | rfl | (simp [dropL, Heap.get, ec]; done)) (by first | rfl | (simp [dropL, Heap.get]; done))
theorem change2D (bs : List Int) (s : In) (a : Evt) (hs : s.bad = false) (h15 : a.1 15 = 2) (hw : s.wk ≤ bs.length) (hn : bs.length < 2 ^ 46) (hby : ∀ b ∈ bs, 0 ≤ b ∧ b < 256) :
    Con Try.prog gl0 (fnv 51) [.ptr 0 0 0 0, .ptr 1 0 0 15] 3 (HD bs s (ec a) 37) (RetD bs (dLs bs (s, a) [68, 67]).1 (ec (dLs bs (s, a) [68, 67]).2) 37 3 (Bo true)) := by
  have cec : cut (ec a) 15 1 = some [I (a.1 15)] := rfl
  rw [h15] at cec
  refine Con.of Try.ok51 (nt := 117) (res := [.tmp 4]) Try.mixed Try.func51 rfl rfl rfl rfl fun κ xc hκ => hκ.run 300 ?_
  simp (disch := omega) only [push_cast, simprocAttr, cec]
  refine (Does.D hκ.hP hκ.hgl _ (fun i => if i = 3 then 3 else i) [0, 1, 2, 3] _ _ (small1D bs (s) (ec a) (ec (upd a 16 (numR bs (s).wk (s).er 1))) _ 16 (ec_bnd _ _) (ec_bnd _ _) rfl (by repeat (first | exact hw | apply rdS_wk | apply listS_wk)) hn hby) (by rfl) ⟨trivial, by simp [SV.bnd, SV.bndL], by simp [SV.bnd, SV.bndL]⟩ (by first | assumption | exact ec_bnd _ _ | (simp [SV.bnd, SV.bndL]; done)) (by decide) (by intro i hi; (repeat (first | omega | (dsimp only [id]; omega) | split))) (by intro i j; (repeat (first | omega | (dsimp only [id]; omega) | split))) (by repeat' (first | exact HeapIn.nil | refine HeapIn.cons (by decide) (by first | exact Blk.bnd_own0 (by assumption) | exact ec_bnd _ _ | (simp [Blk.bnd, SV.bnd, SV.bndL]; done)) (by simp) (by first | rfl | (rw [Blk.ren_own0 (by assumption)]; rfl)) ?_)) ?_)
  simp only [renH, Blk.ren, SV.renL, SV.ren, tau, without, List.mem_singleton, List.mem_cons, List.not_mem_nil, or_false, or_true, true_or, Nat.reduceEqDiff, Nat.reduceLT, Nat.zero_lt_one, Nat.one_ne_zero, Nat.zero_ne_one, Nat.zero_lt_succ, ↓reduceIte, List.cons_append, List.nil_append, List.append_nil, id]
  refine hκ.run 300 ?_
  simp (disch := omega) only [push_cast, simprocAttr, cec]
  refine (Does.D hκ.hP hκ.hgl _ (id) [0, 1, 2] _ _ (oneBD bs (rdS bs 1 (s)) (ec (upd a 16 (numR bs (s).wk (s).er 1))) (ec (upd (upd a 16 (numR bs (s).wk (s).er 1)) 23 (numR bs (rdS bs 1 (s)).wk (rdS bs 1 (s)).er 2))) _ 23 (ec_bnd _ _) (ec_bnd _ _) rfl (by repeat (first | exact hw | apply rdS_wk | apply listS_wk)) hn hby) (by rfl) ⟨trivial, by simp [SV.bnd, SV.bndL], by simp [SV.bnd, SV.bndL]⟩ (by first | assumption | exact ec_bnd _ _ | (simp [SV.bnd, SV.bndL]; done)) (by decide) (by intro i hi; (repeat (first | omega | (dsimp only [id]; omega) | split))) (by intro i j; (repeat (first | omega | (dsimp only [id]; omega) | split))) (by repeat' (first | exact HeapIn.nil | refine HeapIn.cons (by decide) (by first | exact Blk.bnd_own0 (by assumption) | exact ec_bnd _ _ | (simp [Blk.bnd, SV.bnd, SV.bndL]; done)) (by simp) (by first | rfl | (rw [Blk.ren_own0 (by assumption)]; rfl)) ?_)) ?_)
  simp only [renH, Blk.ren, SV.renL, SV.ren, tau, without, List.mem_singleton, List.mem_cons, List.not_mem_nil, or_false, or_true, true_or, Nat.reduceEqDiff, Nat.reduceLT, Nat.zero_lt_one, Nat.one_ne_zero, Nat.zero_ne_one, Nat.zero_lt_succ, ↓reduceIte, List.cons_append, List.nil_append, List.append_nil, id]
  refine hκ.run 300 ?_
  simp (disch := omega) only [push_cast, simprocAttr, cec]
  refine hκ.ret _ _ _ _ _ _ trivial rfl ?_
  exact Post.D (ec_bnd _ _) trivial (by decide) (by first | rfl | (simp [dropL, Heap.get]; done)) (by first | rfl | (simp [dropL, Heap.get, ec]; done)) (by first | rfl | (simp [dropL, Heap.get]; done))
theorem change3D (bs : List Int) (s : In) (a : Evt) (hs : s.bad = false) (h15 : a.1 15 = 3) (hw : s.wk ≤ bs.length) (hn : bs.length < 2 ^ 46) (hby : ∀ b ∈ bs, 0 ≤ b ∧ b < 256) :
    Con Try.prog gl0 (fnv 51) [.ptr 0 0 0 0, .ptr 1 0 0 15] 3 (HD bs s (ec a) 37) (RetD bs (dLs bs (s, a) [68, 80]).1 (ec (dLs bs (s, a) [68, 80]).2) 37 3 (Bo true)) := by
  have cec : cut (ec a) 15 1 = some [I (a.1 15)] := rfl
  rw [h15] at cec
  refine Con.of Try.ok51 (nt := 117) (res := [.tmp 4]) Try.mixed Try.func51 rfl rfl rfl rfl fun κ xc hκ => hκ.run 300 ?_
  simp (disch := omega) only [push_cast, simprocAttr, cec]
  refine hκ.draw (.q 0 (.q 1 (.q 2 (.q 3 (.q 4 (.q 5 (.q 6 (.l 7 [] (.l 8 [] (.fin)))))))))) [0, 1, 2, 3, 4, 5, 6] (by kernel_rfl) (by kernel_rfl) rfl ?_
  simp (disch := omega) only [push_cast, simprocAttr, cec]
  refine DCall.of (Does.D hκ.hP hκ.hgl _ (fun i => if i = 3 then 3 else i) [0, 1, 2, 3] _ _ (small2D bs (s) (ec a) (ec (upd a 16 (numR bs (s).wk (s).er 1))) (ec (upd (upd a 16 (numR bs (s).wk (s).er 1)) 20 (numR bs (rdS bs 1 (s)).wk (rdS bs 1 (s)).er 1))) _ 16 20 (ec_bnd _ _) (ec_bnd _ _) (ec_bnd _ _) rfl rfl (by repeat (first | exact hw | apply rdS_wk | apply listS_wk)) hn hby) (by rfl) ⟨trivial, by simp [SV.bnd, SV.bndL], by simp [SV.bnd, SV.bndL]⟩ (by first | assumption | exact ec_bnd _ _ | (simp [SV.bnd, SV.bndL]; done)) (by decide) (by intro i hi; (repeat (first | omega | (dsimp only [id]; omega) | split))) (by intro i j; (repeat (first | omega | (dsimp only [id]; omega) | split))) (by repeat' (first | exact HeapIn.nil | refine HeapIn.cons (by decide) (by first | exact Blk.bnd_own0 (by assumption) | exact ec_bnd _ _ | (simp [Blk.bnd, SV.bnd, SV.bndL]; done)) (by simp) (by first | rfl | (rw [Blk.ren_own0 (by assumption)]; rfl)) ?_)) ?_)
  simp only [renH, Blk.ren, SV.renL, SV.ren, tau, without, List.mem_singleton, List.mem_cons, List.not_mem_nil, or_false, or_true, true_or, Nat.reduceEqDiff, Nat.reduceLT, Nat.zero_lt_one, Nat.one_ne_zero, Nat.zero_ne_one, Nat.zero_lt_succ, ↓reduceIte, List.cons_append, List.nil_append, List.append_nil, id]
  simp (disch := omega) only [push_cast, simprocAttr, cec]
  refine hκ.run 300 ?_
  simp (disch := omega) only [push_cast, simprocAttr, cec]
  refine hκ.ret _ _ _ _ _ _ trivial rfl ?_
  exact Post.D (ec_bnd _ _) trivial (by decide) (by first | rfl | (simp [dropL, Heap.get]; done)) (by first | rfl | (simp [dropL, Heap.get, ec]; done)) (by first | rfl | (simp [dropL, Heap.get]; done))
theorem change4D (bs : List Int) (s : In) (a : Evt) (hs : s.bad = false) (h15 : a.1 15 = 4) (hw : s.wk ≤ bs.length) (hn : bs.length < 2 ^ 46) (hby : ∀ b ∈ bs, 0 ≤ b ∧ b < 256) :
    Con Try.prog gl0 (fnv 51) [.ptr 0 0 0 0, .ptr 1 0 0 15] 3 (HD bs s (ec a) 37) (RetD bs (dLs bs (s, a) [86, 77]).1 (ec (dLs bs (s, a) [86, 77]).2) 37 3 (Bo true)) := by
  have cec : cut (ec a) 15 1 = some [I (a.1 15)] := rfl
  rw [h15] at cec
  refine Con.of Try.ok51 (nt := 117) (res := [.tmp 4]) Try.mixed Try.func51 rfl rfl rfl rfl fun κ xc hκ => hκ.run 300 ?_
  simp (disch := omega) only [push_cast, simprocAttr, cec]
  refine (Does.D hκ.hP hκ.hgl _ (fun i => if i = 3 then 3 else i) [0, 1, 2, 3] _ _ (small1D bs (s) (ec a) (ec (upd a 17 (numR bs (s).wk (s).er 1))) _ 17 (ec_bnd _ _) (ec_bnd _ _) rfl (by repeat (first | exact hw | apply rdS_wk | apply listS_wk)) hn hby) (by rfl) ⟨trivial, by simp [SV.bnd, SV.bndL], by simp [SV.bnd, SV.bndL]⟩ (by first | assumption | exact ec_bnd _ _ | (simp [SV.bnd, SV.bndL]; done)) (by decide) (by intro i hi; (repeat (first | omega | (dsimp only [id]; omega) | split))) (by intro i j; (repeat (first | omega | (dsimp only [id]; omega) | split))) (by repeat' (first | exact HeapIn.nil | refine HeapIn.cons (by decide) (by first | exact Blk.bnd_own0 (by assumption) | exact ec_bnd _ _ | (simp [Blk.bnd, SV.bnd, SV.bndL]; done)) (by simp) (by first | rfl | (rw [Blk.ren_own0 (by assumption)]; rfl)) ?_)) ?_)
  simp only [renH, Blk.ren, SV.renL, SV.ren, tau, without, List.mem_singleton, List.mem_cons, List.not_mem_nil, or_false, or_true, true_or, Nat.reduceEqDiff, Nat.reduceLT, Nat.zero_lt_one, Nat.one_ne_zero, Nat.zero_ne_one, Nat.zero_lt_succ, ↓reduceIte, List.cons_append, List.nil_append, List.append_nil, id]
  refine hκ.run 300 ?_
  simp (disch := omega) only [push_cast, simprocAttr, cec]
  refine (Does.D hκ.hP hκ.hgl _ (id) [0, 1, 2] _ _ (maskMD bs (rdS bs 1 (s)) (upd a 17 (numR bs (s).wk (s).er 1)) (by repeat (first | exact hw | apply rdS_wk | apply listS_wk)) hn hby) (by rfl) ⟨trivial, by simp [SV.bnd, SV.bndL], by simp [SV.bnd, SV.bndL]⟩ (by first | assumption | exact ec_bnd _ _ | (simp [SV.bnd, SV.bndL]; done)) (by decide) (by intro i hi; (repeat (first | omega | (dsimp only [id]; omega) | split))) (by intro i j; (repeat (first | omega | (dsimp only [id]; omega) | split))) (by repeat' (first | exact HeapIn.nil | refine HeapIn.cons (by decide) (by first | exact Blk.bnd_own0 (by assumption) | exact ec_bnd _ _ | (simp [Blk.bnd, SV.bnd, SV.bndL]; done)) (by simp) (by first | rfl | (rw [Blk.ren_own0 (by assumption)]; rfl)) ?_)) ?_)
  simp only [renH, Blk.ren, SV.renL, SV.ren, tau, without, List.mem_singleton, List.mem_cons, List.not_mem_nil, or_false, or_true, true_or, Nat.reduceEqDiff, Nat.reduceLT, Nat.zero_lt_one, Nat.one_ne_zero, Nat.zero_ne_one, Nat.zero_lt_succ, ↓reduceIte, List.cons_append, List.nil_append, List.append_nil, id]
  refine hκ.run 300 ?_
  simp (disch := omega) only [push_cast, simprocAttr, cec]
  refine hκ.ret _ _ _ _ _ _ trivial rfl ?_
  exact Post.D (ec_bnd _ _) trivial (by decide) (by first | rfl | (simp [dropL, Heap.get]; done)) (by first | rfl | (simp [dropL, Heap.get, ec]; done)) (by first | rfl | (simp [dropL, Heap.get]; done))
theorem change5D (bs : List Int) (s : In) (a : Evt) (hs : s.bad = false) (h15 : a.1 15 = 5) (hw : s.wk ≤ bs.length) (hn : bs.length < 2 ^ 46) (hby : ∀ b ∈ bs, 0 ≤ b ∧ b < 256) :
    Con Try.prog gl0 (fnv 51) [.ptr 0 0 0 0, .ptr 1 0 0 15] 3 (HD bs s (ec a) 37) (RetD bs (dLs bs (s, a) [78]).1 (ec (dLs bs (s, a) [78]).2) 37 3 (Bo true)) := by
  have cec : cut (ec a) 15 1 = some [I (a.1 15)] := rfl
  rw [h15] at cec
  refine Con.of Try.ok51 (nt := 117) (res := [.tmp 4]) Try.mixed Try.func51 rfl rfl rfl rfl fun κ xc hκ => hκ.run 300 ?_
  simp (disch := omega) only [push_cast, simprocAttr, cec]
  refine (Does.D hκ.hP hκ.hgl _ (id) [0, 1, 2] _ _ (listMD bs (s) a (by exact hs) (by repeat (first | exact hw | apply rdS_wk | apply listS_wk)) hn hby) (by rfl) ⟨trivial, by simp [SV.bnd, SV.bndL], by simp [SV.bnd, SV.bndL]⟩ (by first | assumption | exact ec_bnd _ _ | (simp [SV.bnd, SV.bndL]; done)) (by decide) (by intro i hi; (repeat (first | omega | (dsimp only [id]; omega) | split))) (by intro i j; (repeat (first | omega | (dsimp only [id]; omega) | split))) (by repeat' (first | exact HeapIn.nil | refine HeapIn.cons (by decide) (by first | exact Blk.bnd_own0 (by assumption) | exact ec_bnd _ _ | (simp [Blk.bnd, SV.bnd, SV.bndL]; done)) (by simp) (by first | rfl | (rw [Blk.ren_own0 (by assumption)]; rfl)) ?_)) ?_)
  simp only [renH, Blk.ren, SV.renL, SV.ren, tau, without, List.mem_singleton, List.mem_cons, List.not_mem_nil, or_false, or_true, true_or, Nat.reduceEqDiff, Nat.reduceLT, Nat.zero_lt_one, Nat.one_ne_zero, Nat.zero_ne_one, Nat.zero_lt_succ, ↓reduceIte, List.cons_append, List.nil_append, List.append_nil, id]
  refine hκ.run 300 ?_
  simp (disch := omega) only [push_cast, simprocAttr, cec]
  refine hκ.ret _ _ _ _ _ _ trivial rfl ?_
  exact Post.D (ec_bnd _ _) trivial (by decide) (by first | rfl | (simp [dropL, Heap.get]; done)) (by first | rfl | (simp [dropL, Heap.get, ec]; done)) (by first | rfl | (simp [dropL, Heap.get]; done))
theorem change6D (bs : List Int) (s : In) (a : Evt) (hs : s.bad = false) (h15 : a.1 15 = 6) (hw : s.wk ≤ bs.length) (hn : bs.length < 2 ^ 46) (hby : ∀ b ∈ bs, 0 ≤ b ∧ b < 256) :
    Con Try.prog gl0 (fnv 51) [.ptr 0 0 0 0, .ptr 1 0 0 15] 3 (HD bs s (ec a) 37) (RetD bs (dLs bs (s, a) [71]).1 (ec (dLs bs (s, a) [71]).2) 37 3 (Bo true)) := by
  have cec : cut (ec a) 15 1 = some [I (a.1 15)] := rfl
  rw [h15] at cec
  refine Con.of Try.ok51 (nt := 117) (res := [.tmp 4]) Try.mixed Try.func51 rfl rfl rfl rfl fun κ xc hκ => hκ.run 300 ?_
  simp (disch := omega) only [push_cast, simprocAttr, cec]
  refine (Does.D hκ.hP hκ.hgl _ (fun i => if i = 3 then 3 else i) [0, 1, 2, 3] _ _ (small1D bs (s) (ec a) (ec (upd a 18 (numR bs (s).wk (s).er 1))) _ 18 (ec_bnd _ _) (ec_bnd _ _) rfl (by repeat (first | exact hw | apply rdS_wk | apply listS_wk)) hn hby) (by rfl) ⟨trivial, by simp [SV.bnd, SV.bndL], by simp [SV.bnd, SV.bndL]⟩ (by first | assumption | exact ec_bnd _ _ | (simp [SV.bnd, SV.bndL]; done)) (by decide) (by intro i hi; (repeat (first | omega | (dsimp only [id]; omega) | split))) (by intro i j; (repeat (first | omega | (dsimp only [id]; omega) | split))) (by repeat' (first | exact HeapIn.nil | refine HeapIn.cons (by decide) (by first | exact Blk.bnd_own0 (by assumption) | exact ec_bnd _ _ | (simp [Blk.bnd, SV.bnd, SV.bndL]; done)) (by simp) (by first | rfl | (rw [Blk.ren_own0 (by assumption)]; rfl)) ?_)) ?_)
  simp only [renH, Blk.ren, SV.renL, SV.ren, tau, without, List.mem_singleton, List.mem_cons, List.not_mem_nil, or_false, or_true, true_or, Nat.reduceEqDiff, Nat.reduceLT, Nat.zero_lt_one, Nat.one_ne_zero, Nat.zero_ne_one, Nat.zero_lt_succ, ↓reduceIte, List.cons_append, List.nil_append, List.append_nil, id]
  refine hκ.run 300 ?_
  simp (disch := omega) only [push_cast, simprocAttr, cec]
  refine hκ.ret _ _ _ _ _ _ trivial rfl ?_
  exact Post.D (ec_bnd _ _) trivial (by decide) (by first | rfl | (simp [dropL, Heap.get]; done)) (by first | rfl | (simp [dropL, Heap.get, ec]; done)) (by first | rfl | (simp [dropL, Heap.get]; done))
theorem change7D (bs : List Int) (s : In) (a : Evt) (hs : s.bad = false) (h15 : a.1 15 = 7) (hw : s.wk ≤ bs.length) (hn : bs.length < 2 ^ 46) (hby : ∀ b ∈ bs, 0 ≤ b ∧ b < 256) :
    Con Try.prog gl0 (fnv 51) [.ptr 0 0 0 0, .ptr 1 0 0 15] 3 (HD bs s (ec a) 37) (RetD bs (dLs bs (s, a) [86]).1 (ec (dLs bs (s, a) [86]).2) 37 3 (Bo true)) := by
  have cec : cut (ec a) 15 1 = some [I (a.1 15)] := rfl
  rw [h15] at cec
  refine Con.of Try.ok51 (nt := 117) (res := [.tmp 4]) Try.mixed Try.func51 rfl rfl rfl rfl fun κ xc hκ => hκ.run 300 ?_
  simp (disch := omega) only [push_cast, simprocAttr, cec]
  refine (Does.D hκ.hP hκ.hgl _ (fun i => if i = 3 then 3 else i) [0, 1, 2, 3] _ _ (small1D bs (s) (ec a) (ec (upd a 17 (numR bs (s).wk (s).er 1))) _ 17 (ec_bnd _ _) (ec_bnd _ _) rfl (by repeat (first | exact hw | apply rdS_wk | apply listS_wk)) hn hby) (by rfl) ⟨trivial, by simp [SV.bnd, SV.bndL], by simp [SV.bnd, SV.bndL]⟩ (by first | assumption | exact ec_bnd _ _ | (simp [SV.bnd, SV.bndL]; done)) (by decide) (by intro i hi; (repeat (first | omega | (dsimp only [id]; omega) | split))) (by intro i j; (repeat (first | omega | (dsimp only [id]; omega) | split))) (by repeat' (first | exact HeapIn.nil | refine HeapIn.cons (by decide) (by first | exact Blk.bnd_own0 (by assumption) | exact ec_bnd _ _ | (simp [Blk.bnd, SV.bnd, SV.bndL]; done)) (by simp) (by first | rfl | (rw [Blk.ren_own0 (by assumption)]; rfl)) ?_)) ?_)
  simp only [renH, Blk.ren, SV.renL, SV.ren, tau, without, List.mem_singleton, List.mem_cons, List.not_mem_nil, or_false, or_true, true_or, Nat.reduceEqDiff, Nat.reduceLT, Nat.zero_lt_one, Nat.one_ne_zero, Nat.zero_ne_one, Nat.zero_lt_succ, ↓reduceIte, List.cons_append, List.nil_append, List.append_nil, id]
  refine hκ.run 300 ?_
  simp (disch := omega) only [push_cast, simprocAttr, cec]
  refine hκ.ret _ _ _ _ _ _ trivial rfl ?_
  exact Post.D (ec_bnd _ _) trivial (by decide) (by first | rfl | (simp [dropL, Heap.get]; done)) (by first | rfl | (simp [dropL, Heap.get, ec]; done)) (by first | rfl | (simp [dropL, Heap.get]; done))
theorem change8D (bs : List Int) (s : In) (a : Evt) (hs : s.bad = false) (h15 : a.1 15 = 8) (hw : s.wk ≤ bs.length) (hn : bs.length < 2 ^ 46) (hby : ∀ b ∈ bs, 0 ≤ b ∧ b < 256) :
    Con Try.prog gl0 (fnv 51) [.ptr 0 0 0 0, .ptr 1 0 0 15] 3 (HD bs s (ec a) 37) (RetD bs (dLs bs (s, a) [80, 83]).1 (ec (dLs bs (s, a) [80, 83]).2) 37 3 (Bo true)) := by
  have cec : cut (ec a) 15 1 = some [I (a.1 15)] := rfl
  rw [h15] at cec
  refine Con.of Try.ok51 (nt := 117) (res := [.tmp 4]) Try.mixed Try.func51 rfl rfl rfl rfl fun κ xc hκ => hκ.run 300 ?_
  simp (disch := omega) only [push_cast, simprocAttr, cec]
  refine (Does.D hκ.hP hκ.hgl _ (fun i => if i = 3 then 3 else i) [0, 1, 2, 3] _ _ (small1D bs (s) (ec a) (ec (upd a 20 (numR bs (s).wk (s).er 1))) _ 20 (ec_bnd _ _) (ec_bnd _ _) rfl (by repeat (first | exact hw | apply rdS_wk | apply listS_wk)) hn hby) (by rfl) ⟨trivial, by simp [SV.bnd, SV.bndL], by simp [SV.bnd, SV.bndL]⟩ (by first | assumption | exact ec_bnd _ _ | (simp [SV.bnd, SV.bndL]; done)) (by decide) (by intro i hi; (repeat (first | omega | (dsimp only [id]; omega) | split))) (by intro i j; (repeat (first | omega | (dsimp only [id]; omega) | split))) (by repeat' (first | exact HeapIn.nil | refine HeapIn.cons (by decide) (by first | exact Blk.bnd_own0 (by assumption) | exact ec_bnd _ _ | (simp [Blk.bnd, SV.bnd, SV.bndL]; done)) (by simp) (by first | rfl | (rw [Blk.ren_own0 (by assumption)]; rfl)) ?_)) ?_)
  simp only [renH, Blk.ren, SV.renL, SV.ren, tau, without, List.mem_singleton, List.mem_cons, List.not_mem_nil, or_false, or_true, true_or, Nat.reduceEqDiff, Nat.reduceLT, Nat.zero_lt_one, Nat.one_ne_zero, Nat.zero_ne_one, Nat.zero_lt_succ, ↓reduceIte, List.cons_append, List.nil_append, List.append_nil, id]
  refine hκ.run 300 ?_
  simp (disch := omega) only [push_cast, simprocAttr, cec]
  refine (Does.D hκ.hP hκ.hgl _ (id) [0, 1, 2] _ _ (oneCD bs (rdS bs 1 (s)) (ec (upd a 20 (numR bs (s).wk (s).er 1))) (ec (upd (upd a 20 (numR bs (s).wk (s).er 1)) 26 (numR bs (rdS bs 1 (s)).wk (rdS bs 1 (s)).er 4))) _ 26 (ec_bnd _ _) (ec_bnd _ _) rfl (by repeat (first | exact hw | apply rdS_wk | apply listS_wk)) hn hby) (by rfl) ⟨trivial, by simp [SV.bnd, SV.bndL], by simp [SV.bnd, SV.bndL]⟩ (by first | assumption | exact ec_bnd _ _ | (simp [SV.bnd, SV.bndL]; done)) (by decide) (by intro i hi; (repeat (first | omega | (dsimp only [id]; omega) | split))) (by intro i j; (repeat (first | omega | (dsimp only [id]; omega) | split))) (by repeat' (first | exact HeapIn.nil | refine HeapIn.cons (by decide) (by first | exact Blk.bnd_own0 (by assumption) | exact ec_bnd _ _ | (simp [Blk.bnd, SV.bnd, SV.bndL]; done)) (by simp) (by first | rfl | (rw [Blk.ren_own0 (by assumption)]; rfl)) ?_)) ?_)
  simp only [renH, Blk.ren, SV.renL, SV.ren, tau, without, List.mem_singleton, List.mem_cons, List.not_mem_nil, or_false, or_true, true_or, Nat.reduceEqDiff, Nat.reduceLT, Nat.zero_lt_one, Nat.one_ne_zero, Nat.zero_ne_one, Nat.zero_lt_succ, ↓reduceIte, List.cons_append, List.nil_append, List.append_nil, id]
  refine hκ.run 300 ?_
  simp (disch := omega) only [push_cast, simprocAttr, cec]
  refine hκ.ret _ _ _ _ _ _ trivial rfl ?_
  exact Post.D (ec_bnd _ _) trivial (by decide) (by first | rfl | (simp [dropL, Heap.get]; done)) (by first | rfl | (simp [dropL, Heap.get, ec]; done)) (by first | rfl | (simp [dropL, Heap.get]; done))
theorem change9D (bs : List Int) (s : In) (a : Evt) (hs : s.bad = false) (h15 : a.1 15 = 9) (hw : s.wk ≤ bs.length) (hn : bs.length < 2 ^ 46) (hby : ∀ b ∈ bs, 0 ≤ b ∧ b < 256) :
    Con Try.prog gl0 (fnv 51) [.ptr 0 0 0 0, .ptr 1 0 0 15] 3 (HD bs s (ec a) 37) (RetD bs (dLs bs (s, a) [80, 73]).1 (ec (dLs bs (s, a) [80, 73]).2) 37 3 (Bo true)) := by
  have cec : cut (ec a) 15 1 = some [I (a.1 15)] := rfl
  rw [h15] at cec
  refine Con.of Try.ok51 (nt := 117) (res := [.tmp 4]) Try.mixed Try.func51 rfl rfl rfl rfl fun κ xc hκ => hκ.run 300 ?_
  simp (disch := omega) only [push_cast, simprocAttr, cec]
  refine hκ.draw (.q 0 (.q 1 (.q 2 (.q 3 (.q 4 (.q 5 (.q 6 (.l 7 [] (.l 8 [] (.fin)))))))))) [0, 1, 2, 3, 4, 5, 6] (by kernel_rfl) (by kernel_rfl) rfl ?_
  simp (disch := omega) only [push_cast, simprocAttr, cec]
  refine DCall.of (Does.D hκ.hP hκ.hgl _ (fun i => if i = 3 then 3 else i) [0, 1, 2, 3] _ _ (small2D bs (s) (ec a) (ec (upd a 20 (numR bs (s).wk (s).er 1))) (ec (upd (upd a 20 (numR bs (s).wk (s).er 1)) 21 (numR bs (rdS bs 1 (s)).wk (rdS bs 1 (s)).er 1))) _ 20 21 (ec_bnd _ _) (ec_bnd _ _) (ec_bnd _ _) rfl rfl (by repeat (first | exact hw | apply rdS_wk | apply listS_wk)) hn hby) (by rfl) ⟨trivial, by simp [SV.bnd, SV.bndL], by simp [SV.bnd, SV.bndL]⟩ (by first | assumption | exact ec_bnd _ _ | (simp [SV.bnd, SV.bndL]; done)) (by decide) (by intro i hi; (repeat (first | omega | (dsimp only [id]; omega) | split))) (by intro i j; (repeat (first | omega | (dsimp only [id]; omega) | split))) (by repeat' (first | exact HeapIn.nil | refine HeapIn.cons (by decide) (by first | exact Blk.bnd_own0 (by assumption) | exact ec_bnd _ _ | (simp [Blk.bnd, SV.bnd, SV.bndL]; done)) (by simp) (by first | rfl | (rw [Blk.ren_own0 (by assumption)]; rfl)) ?_)) ?_)
  simp only [renH, Blk.ren, SV.renL, SV.ren, tau, without, List.mem_singleton, List.mem_cons, List.not_mem_nil, or_false, or_true, true_or, Nat.reduceEqDiff, Nat.reduceLT, Nat.zero_lt_one, Nat.one_ne_zero, Nat.zero_ne_one, Nat.zero_lt_succ, ↓reduceIte, List.cons_append, List.nil_append, List.append_nil, id]
  simp (disch := omega) only [push_cast, simprocAttr, cec]
  refine hκ.run 300 ?_
  simp (disch := omega) only [push_cast, simprocAttr, cec]
  refine hκ.ret _ _ _ _ _ _ trivial rfl ?_
  exact Post.D (ec_bnd _ _) trivial (by decide) (by first | rfl | (simp [dropL, Heap.get]; done)) (by first | rfl | (simp [dropL, Heap.get, ec]; done)) (by first | rfl | (simp [dropL, Heap.get]; done))
theorem change10D (bs : List Int) (s : In) (a : Evt) (hs : s.bad = false) (h15 : a.1 15 = 10) (hw : s.wk ≤ bs.length) (hn : bs.length < 2 ^ 46) (hby : ∀ b ∈ bs, 0 ≤ b ∧ b < 256) :
    Con Try.prog gl0 (fnv 51) [.ptr 0 0 0 0, .ptr 1 0 0 15] 3 (HD bs s (ec a) 37) (RetD bs (dLs bs (s, a) [85, 80]).1 (ec (dLs bs (s, a) [85, 80]).2) 37 3 (Bo true)) := by
  have cec : cut (ec a) 15 1 = some [I (a.1 15)] := rfl
  rw [h15] at cec
  refine Con.of Try.ok51 (nt := 117) (res := [.tmp 4]) Try.mixed Try.func51 rfl rfl rfl rfl fun κ xc hκ => hκ.run 300 ?_
  simp (disch := omega) only [push_cast, simprocAttr, cec]
  refine hκ.draw (.q 0 (.q 1 (.q 2 (.q 3 (.q 4 (.q 5 (.q 6 (.l 7 [] (.l 8 [] (.fin)))))))))) [0, 1, 2, 3, 4, 5, 6] (by kernel_rfl) (by kernel_rfl) rfl ?_
  simp (disch := omega) only [push_cast, simprocAttr, cec]
  refine DCall.of (Does.D hκ.hP hκ.hgl _ (fun i => if i = 3 then 3 else i) [0, 1, 2, 3] _ _ (small2D bs (s) (ec a) (ec (upd a 19 (numR bs (s).wk (s).er 1))) (ec (upd (upd a 19 (numR bs (s).wk (s).er 1)) 20 (numR bs (rdS bs 1 (s)).wk (rdS bs 1 (s)).er 1))) _ 19 20 (ec_bnd _ _) (ec_bnd _ _) (ec_bnd _ _) rfl rfl (by repeat (first | exact hw | apply rdS_wk | apply listS_wk)) hn hby) (by rfl) ⟨trivial, by simp [SV.bnd, SV.bndL], by simp [SV.bnd, SV.bndL]⟩ (by first | assumption | exact ec_bnd _ _ | (simp [SV.bnd, SV.bndL]; done)) (by decide) (by intro i hi; (repeat (first | omega | (dsimp only [id]; omega) | split))) (by intro i j; (repeat (first | omega | (dsimp only [id]; omega) | split))) (by repeat' (first | exact HeapIn.nil | refine HeapIn.cons (by decide) (by first | exact Blk.bnd_own0 (by assumption) | exact ec_bnd _ _ | (simp [Blk.bnd, SV.bnd, SV.bndL]; done)) (by simp) (by first | rfl | (rw [Blk.ren_own0 (by assumption)]; rfl)) ?_)) ?_)
  simp only [renH, Blk.ren, SV.renL, SV.ren, tau, without, List.mem_singleton, List.mem_cons, List.not_mem_nil, or_false, or_true, true_or, Nat.reduceEqDiff, Nat.reduceLT, Nat.zero_lt_one, Nat.one_ne_zero, Nat.zero_ne_one, Nat.zero_lt_succ, ↓reduceIte, List.cons_append, List.nil_append, List.append_nil, id]
  simp (disch := omega) only [push_cast, simprocAttr, cec]
  refine hκ.run 300 ?_
  simp (disch := omega) only [push_cast, simprocAttr, cec]
  refine hκ.ret _ _ _ _ _ _ trivial rfl ?_
  exact Post.D (ec_bnd _ _) trivial (by decide) (by first | rfl | (simp [dropL, Heap.get]; done)) (by first | rfl | (simp [dropL, Heap.get, ec]; done)) (by first | rfl | (simp [dropL, Heap.get]; done))
theorem change0D (bs : List Int) (s : In) (a : Evt) (hn : a.1 15 < 1 ∨ 10 < a.1 15) :
    Con Try.prog gl0 (fnv 51) [.ptr 0 0 0 0, .ptr 1 0 0 15] 3 (HD bs s (ec a) 37) (RetD bs s (ec a) 37 3 (Bo false)) := by
  have cec : cut (ec a) 15 1 = some [I (a.1 15)] := rfl
  have q1 : (a.1 15 = 1) = False := by first | (simp only [eq_iff_iff, iff_false]; first | assumption | omega) | (simp; omega)
  have q2 : (a.1 15 = 2) = False := by first | (simp only [eq_iff_iff, iff_false]; first | assumption | omega) | (simp; omega)
  have q3 : (a.1 15 = 3) = False := by first | (simp only [eq_iff_iff, iff_false]; first | assumption | omega) | (simp; omega)
  have q4 : (a.1 15 = 4) = False := by first | (simp only [eq_iff_iff, iff_false]; first | assumption | omega) | (simp; omega)
  have q5 : (a.1 15 = 5) = False := by first | (simp only [eq_iff_iff, iff_false]; first | assumption | omega) | (simp; omega)
  have q6 : (a.1 15 = 6) = False := by first | (simp only [eq_iff_iff, iff_false]; first | assumption | omega) | (simp; omega)
  have q7 : (a.1 15 = 7) = False := by first | (simp only [eq_iff_iff, iff_false]; first | assumption | omega) | (simp; omega)
  have q8 : (a.1 15 = 8) = False := by first | (simp only [eq_iff_iff, iff_false]; first | assumption | omega) | (simp; omega)
  have q9 : (a.1 15 = 9) = False := by first | (simp only [eq_iff_iff, iff_false]; first | assumption | omega) | (simp; omega)
  have q10 : (a.1 15 = 10) = False := by first | (simp only [eq_iff_iff, iff_false]; first | assumption | omega) | (simp; omega)
  refine Con.of Try.ok51 (nt := 117) (res := [.tmp 4]) Try.mixed Try.func51 rfl rfl rfl rfl fun κ xc hκ => hκ.run 300 ?_
  simp (disch := omega) only [push_cast, simprocAttr, cec, q1, q2, q3, q4, q5, q6, q7, q8, q9, q10]
  refine hκ.ret _ _ _ _ _ _ trivial rfl ?_
  exact Post.D (ec_bnd _ _) trivial (by decide) (by first | rfl | (simp [dropL, Heap.get]; done)) (by first | rfl | (simp [dropL, Heap.get, ec]; done)) (by first | rfl | (simp [dropL, Heap.get]; done))
end Go.Proofs.Ytmieikflcolbaaa

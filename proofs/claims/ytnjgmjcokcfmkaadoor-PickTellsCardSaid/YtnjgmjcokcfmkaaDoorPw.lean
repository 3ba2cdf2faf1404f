/- Rows of wishes; place.Check, asked. No condition. -/
import Derived.Test.YtnjgmjcokcfmkaaDoorMk
namespace Go.Proofs.YtnjgmjcokcfmkaaDoor
open Go Go.Sy
set_option maxRecDepth 100000
set_option linter.unusedSimpArgs false
set_option linter.unusedVariables false

/-- A wish: who, where it is, its mask. -/
structure Wi where
  v : Int
  a : Int
  m : Msk
instance : Inhabited Wi := ⟨⟨0, 0, 0, 0⟩⟩
def eW (w : Wi) : List SV := [I w.v, I w.a, S w.m.1, S w.m.2]
abbrev Ws (l : List Wi) : SV := .rd 4 (l.map eW)
abbrev inW (w : Wi) : Prop := (-9223372036854775808 ≤ w.v ∧ w.v ≤ 9223372036854775807) ∧ (-9223372036854775808 ≤ w.a ∧ w.a ≤ 9223372036854775807) ∧ u32M w.m
def ok1 (w : Wi) : Bool := decide (1 ≤ w.v ∧ w.v ≤ 16) && decide (-1 ≤ w.a ∧ w.a ≤ 7) && okM w.m
/-- May a wish stand behind these? -/
def okB (pre : List Wi) (w : Wi) : Bool := ok1 w && !(pre.any fun u => decide (u.v = w.v)) && !(decide (0 ≤ w.a) && pre.any fun u => decide (u.a = w.a))
def okWs : List Wi → List Wi → Bool
  | _, [] => true
  | pre, w :: l => okB pre w && okWs (pre ++ [w]) l
theorem cutB {t : List Bool} {n : Nat} (h : n < t.length) : cut (t.map fun b => SV.v (.bool b)) n 1 = some [.v (.bool (t.getD n false))] := by
  induction t generalizing n with
  | nil => simp at h
  | cons b t ih =>
    cases n with
    | zero => simp [cut, takeN]
    | succ n => simp only [List.map_cons, cut]; rw [ih (by simpa using h)]; simp
theorem pasteB {t : List Bool} {n : Nat} {x : Bool} (h : n < t.length) : paste (t.map fun b => SV.v (.bool b)) n [.v (.bool x)] = some ((t.set n x).map fun b => SV.v (.bool b)) := by
  induction t generalizing n with
  | nil => simp at h
  | cons b t ih =>
    cases n with
    | zero => simp [paste, over]
    | succ n => simp only [List.map_cons, paste]; rw [ih (by simpa using h)]; simp
theorem map_set' {α β : Type} (f : α → β) (l : List α) (n : Nat) (x : α) : (l.map f).set n (f x) = (l.set n x).map f := by
  rw [List.map_set]
theorem setEB (l : List Bool) (n : Nat) (x : Bool) : (l.map eB).set n [.v (.bool x)] = (l.set n x).map eB := (map_set' eB l n x)
/-- Marks of those that were met. -/
def marks (n : Nat) (f : Int → Bool) (t : List Bool) : Prop := t.length = n ∧ ∀ i : Nat, i < n → t.getD i false = f i
theorem marks_none (n : Nat) (f : Int → Bool) (h : ∀ i, f i = false) : marks n f (List.replicate n false) := ⟨by simp, fun i hi => by simp [List.getD, hi, h]⟩
theorem marks_set {n : Nat} {f : Int → Bool} {t : List Bool} {i : Int} (h : marks n f t) (h0 : 0 ≤ i) : marks n (fun j => f j || decide (i = j)) (t.set i.toNat true) := by
  refine ⟨by simp [h.1], fun k hk => ?_⟩
  have := h.2 k hk
  simp only [List.getD] at this ⊢
  rw [List.getElem?_set]
  by_cases e : i.toNat = k
  · subst e
    rw [if_pos rfl, if_pos (by rw [h.1]; exact hk)]
    simp [Int.toNat_of_nonneg h0]
  · rw [if_neg e, this]
    have : ¬ i = (k : Int) := by omega
    simp [this]
theorem marks_get {n : Nat} {f : Int → Bool} {t : List Bool} {i : Int} (h : marks n f t) (h0 : 0 ≤ i) (h1 : i < n) : t.getD i.toNat false = f i := by
  rw [h.2 _ (by omega), Int.toNat_of_nonneg h0]

theorem pcheck_ok (l : List Wi) (hl : ∀ w ∈ l, inW w) (hn : l.length < 2 ^ 40) : Con Tryd.prog gl0 (fnv 43) [Ws l] 0 [] (Ret (I (if okWs [] l = true then 0 else 230))) := by
  refine Con.of Tryd.ok43 (nt := 64) (res := [.tmp 2]) Tryd.mixed Tryd.func43 rfl rfl rfl rfl fun κ xc hκ => hκ.run 300 ?_
  simp (disch := omega) only [push_cast, simprocAttr, eW, cutB, pasteB, setEB]
  refine Sat.less (Sat.loop (γ := Nat × List Bool × List Bool) (fun g => ([(9, I g.1), (8, I l.length), (7, Ws l), (3, .ptr 0 0 0 0), (4, .ptr 1 0 0 0)], [(0, .row 1 17 80 (g.2.1.map eB)), (1, .own (g.2.2.map fun b => .v (.bool b)) 107)], 2)) (fun g => l.length - g.1)
    (fun g => g.1 ≤ l.length ∧ okWs (l.take g.1) (l.drop g.1) = okWs [] l ∧ marks 17 (fun i => (l.take g.1).any fun u => decide (u.v = i)) g.2.1 ∧ marks 8 (fun i => (l.take g.1).any fun u => decide (u.a = i)) g.2.2) ?round
    (0, List.replicate 17 false, List.replicate 8 false) ⟨by omega, rfl, marks_none _ _ fun i => rfl, marks_none _ _ fun i => rfl⟩) (by repeat' (first | exact EnvSub.nil _ | exact HeapSub.nil _ | refine EnvSub.cons rfl ?_ | refine HeapSub.cons rfl ?_ | (refine EnvSub.cons (by simp [Env.get]; done) ?_) | (refine HeapSub.cons (by simp [Heap.get]; done) ?_))) (by repeat' (first | exact EnvSub.nil _ | exact HeapSub.nil _ | refine EnvSub.cons rfl ?_ | refine HeapSub.cons rfl ?_ | (refine EnvSub.cons (by simp [Env.get]; done) ?_) | (refine HeapSub.cons (by simp [Heap.get]; done) ?_)))
  case round =>
    rintro ⟨k, mt, tk⟩ ⟨hk, hl1, hmt, htk⟩ ih
    dsimp only at hk hl1 hmt htk ih ⊢
    refine hκ.run 300 ?_
    simp (disch := omega) only [push_cast, simprocAttr, eW, cutB, pasteB, setEB]
    refine OutOK_fork (fun h => ?_) (fun h => ?_) <;> try simp only [Bool.not_true, Bool.not_false, decide_eq_true_eq, decide_eq_false_iff_not, Bool.not_eq_true', Bool.not_eq_false', Bool.and_eq_true, Bool.or_eq_false_iff, Bool.or_eq_true, Bool.and_eq_false_iff] at h
    · simp (disch := omega) only [push_cast, simprocAttr, eW, cutB, pasteB, setEB]
      (repeat (refine ⟨by first | omega | (refine ⟨?_, ?_⟩ <;> omega) | trivial | (simp; done) | decide +kernel, fun _ => ?_⟩))
      have hm : l[k]'(by omega) ∈ l := List.getElem_mem _
      have hg : l.getD k default = l[k]'(by omega) := by simp [List.getD, show k < l.length by omega]
      have ht : l.take (k + 1) = l.take k ++ [l[k]'(by omega)] := List.take_succ_eq_append_getElem (by omega)
      have hd : l.drop k = l[k]'(by omega) :: l.drop (k + 1) := List.drop_eq_getElem_cons (by omega)
      obtain ⟨⟨v1, v2⟩, ⟨a1, a2⟩, m1⟩ := hl _ hm
      have hz := fun mt tk h1 h2 h3 => ih (k + 1, mt, tk) ⟨by dsimp only; omega, h1, h2, h3⟩ (by dsimp only; omega)
      dsimp only at hz
      rw [ht] at hz
      rw [hd, okWs] at hl1
      rw [← hg] at v1 v2 a1 a2 m1 hz hl1
      generalize l.getD k default = w at v1 v2 a1 a2 m1 hz hl1 ⊢
      generalize l.take k = pre at hmt htk hz hl1
      have hmg : 0 ≤ w.v → w.v < 17 → mt.getD w.v.toNat default = pre.any fun u => decide (u.v = w.v) := fun h0 h1 => marks_get (i := w.v) hmt h0 h1
      have htg : 0 ≤ w.a → w.a < 8 → tk.getD w.a.toNat false = pre.any fun u => decide (u.a = w.a) := fun h0 h1 => marks_get (i := w.a) htk h0 h1
      have l17 := hmt.1
      have l8 := htk.1
      have bad : ∀ {H : Heap} {nx : Nat}, okB pre w = false → Post 0 (Ret (I (if okWs [] l = true then 0 else 230))) (I 230) H nx := fun h => by
        rw [← hl1, h]
        exact .ret trivial
      (first | refine OutOK_guard (fun h => ?_) (fun h => ?_) | refine GF.of (fun h => ?_) (fun h => ?_)) <;> try simp only [Bool.not_true, Bool.not_false, decide_eq_true_eq, decide_eq_false_iff_not, Bool.not_eq_true', Bool.not_eq_false', Bool.and_eq_true, Bool.or_eq_false_iff, Bool.or_eq_true, Bool.and_eq_false_iff] at h
      rotate_left
      · simp (disch := omega) only [push_cast, simprocAttr, eW, cutB, pasteB, setEB]
        refine hκ.ret _ _ _ _ _ _ trivial rfl ?_
        exact bad (by simp [okB, ok1]; omega)
      simp (disch := omega) only [push_cast, simprocAttr, eW, cutB, pasteB, setEB]
      (first | refine OutOK_guard (fun h => ?_) (fun h => ?_) | refine GF.of (fun h => ?_) (fun h => ?_)) <;> try simp only [Bool.not_true, Bool.not_false, decide_eq_true_eq, decide_eq_false_iff_not, Bool.not_eq_true', Bool.not_eq_false', Bool.and_eq_true, Bool.or_eq_false_iff, Bool.or_eq_true, Bool.and_eq_false_iff] at h
      rotate_left
      · simp (disch := omega) only [push_cast, simprocAttr, eW, cutB, pasteB, setEB]
        refine hκ.ret _ _ _ _ _ _ trivial rfl ?_
        exact bad (by simp [okB, ok1]; omega)
      simp (disch := omega) only [push_cast, simprocAttr, eW, cutB, pasteB, setEB]
      rw [hmg (by omega) (by omega)]
      (repeat (refine ⟨by first | omega | (refine ⟨?_, ?_⟩ <;> omega) | trivial | (simp; done) | decide +kernel, fun _ => ?_⟩))
      (first | refine OutOK_guard (fun h => ?_) (fun h => ?_) | refine GF.of (fun h => ?_) (fun h => ?_)) <;> try simp only [Bool.not_true, Bool.not_false, decide_eq_true_eq, decide_eq_false_iff_not, Bool.not_eq_true', Bool.not_eq_false', Bool.and_eq_true, Bool.or_eq_false_iff, Bool.or_eq_true, Bool.and_eq_false_iff] at h
      rotate_left
      · simp (disch := omega) only [push_cast, simprocAttr, eW, cutB, pasteB, setEB]
        refine hκ.ret _ _ _ _ _ _ trivial rfl ?_
        exact bad (by simp only [okB, h, Bool.not_true, Bool.and_false, Bool.false_and])
      simp (disch := omega) only [push_cast, simprocAttr, eW, cutB, pasteB, setEB]
      have hv := h
      (first | refine OutOK_guard (fun h => ?_) (fun h => ?_) | refine GF.of (fun h => ?_) (fun h => ?_)) <;> try simp only [Bool.not_true, Bool.not_false, decide_eq_true_eq, decide_eq_false_iff_not, Bool.not_eq_true', Bool.not_eq_false', Bool.and_eq_true, Bool.or_eq_false_iff, Bool.or_eq_true, Bool.and_eq_false_iff] at h
      rotate_left
      · simp (disch := omega) only [push_cast, simprocAttr, eW, cutB, pasteB, setEB]
        refine hκ.ret _ _ _ _ _ _ trivial rfl ?_
        exact bad (by simp [okB, ok1]; omega)
      simp (disch := omega) only [push_cast, simprocAttr, eW, cutB, pasteB, setEB]
      (first | refine OutOK_guard (fun h => ?_) (fun h => ?_) | refine GF.of (fun h => ?_) (fun h => ?_)) <;> try simp only [Bool.not_true, Bool.not_false, decide_eq_true_eq, decide_eq_false_iff_not, Bool.not_eq_true', Bool.not_eq_false', Bool.and_eq_true, Bool.or_eq_false_iff, Bool.or_eq_true, Bool.and_eq_false_iff] at h
      rotate_left
      · simp (disch := omega) only [push_cast, simprocAttr, eW, cutB, pasteB, setEB]
        refine hκ.ret _ _ _ _ _ _ trivial rfl ?_
        exact bad (by simp [okB, ok1]; omega)
      simp (disch := omega) only [push_cast, simprocAttr, eW, cutB, pasteB, setEB]
      refine Does.ret hκ.hP hκ.hgl (mcheck_ok w.m m1) ⟨trivial, by first | (simp [SV.bnd, SV.bndL]; done) | (simp [SV.bnd, SV.bndL, ec_bnd]; done), by first | (simp [SV.bnd, SV.bndL]; done) | (simp [SV.bnd, SV.bndL, ec_bnd]; done) | assumption⟩ ?_
      cases hk : okM w.m
      · simp only [Bool.false_eq_true, if_false]
        refine hκ.run 300 ?_
        simp (disch := omega) only [push_cast, simprocAttr, eW, cutB, pasteB, setEB]
        refine hκ.ret _ _ _ _ _ _ trivial rfl ?_
        exact bad (by simp [okB, ok1, hk])
      simp only [if_true]
      refine hκ.run 300 ?_
      simp (disch := omega) only [push_cast, simprocAttr, eW, cutB, pasteB, setEB]
      have hok1 : ok1 w = true := by simp [ok1, hk]; omega
      have mset := marks_set (i := w.v) hmt (by omega)
      have mv : marks 17 (fun i => (pre ++ [w]).any fun u => decide (u.v = i)) (mt.set w.v.toNat true) := by
        simpa only [List.any_append, List.any_cons, List.any_nil, Bool.or_false] using mset
      (first | refine OutOK_guard (fun h => ?_) (fun h => ?_) | refine GF.of (fun h => ?_) (fun h => ?_)) <;> try simp only [Bool.not_true, Bool.not_false, decide_eq_true_eq, decide_eq_false_iff_not, Bool.not_eq_true', Bool.not_eq_false', Bool.and_eq_true, Bool.or_eq_false_iff, Bool.or_eq_true, Bool.and_eq_false_iff] at h
      · simp (disch := omega) only [push_cast, simprocAttr, eW, cutB, pasteB, setEB]
        (repeat (refine ⟨by first | omega | (refine ⟨?_, ?_⟩ <;> omega) | trivial | (simp; done) | decide +kernel, fun _ => ?_⟩))
        rw [htg (by omega) (by omega)]
        cases ha : pre.any fun u => decide (u.a = w.a)
        · simp (disch := omega) only [push_cast, simprocAttr, eW, cutB, pasteB, setEB]
          (repeat (refine ⟨by first | omega | (refine ⟨?_, ?_⟩ <;> omega) | trivial | (simp; done) | decide +kernel, fun _ => ?_⟩))
          refine OutOK_fork (fun _ => ?_) (fun h => (by first | (have h := of_decide_eq_false h; omega) | (simp only [Bool.not_true, Bool.not_false, decide_eq_true_eq, decide_eq_false_iff_not, Bool.not_eq_true', Bool.not_eq_false', Bool.and_eq_true, Bool.or_eq_false_iff, Bool.or_eq_true, Bool.and_eq_false_iff] at h; omega)))
          simp (disch := omega) only [push_cast, simprocAttr, eW, cutB, pasteB, setEB]
          (repeat (refine ⟨by first | omega | (refine ⟨?_, ?_⟩ <;> omega) | trivial | (simp; done) | decide +kernel, fun _ => ?_⟩))
          refine Sat.via (fun i => i) (hz (mt.set w.v.toNat true) (tk.set w.a.toNat true) ?_ mv ?_) (by intro i j; omega) (by repeat' (first | exact EnvVia.nil | refine EnvVia.cons (by first | trivial | decide | (simp [SV.bnd, SV.bndL]; done)) rfl ?_)) (by repeat' (first | exact HeapVia.nil | refine HeapVia.cons (by decide) (by first | trivial | exact Blk.bnd_own0 (by assumption) | (simp [Blk.bnd, SV.bnd, SV.bndL]; done) | exact bndL_mapV _ _ _ | exact LR.bnd (by rw [l2]; simp [bndE, SV.bnd, SV.bndL]) (by rw [l6]; decide)) (by first | (rw [Blk.ren_own0 (by assumption)]; rfl) | rfl | (simp only [Blk.ren, renL_mapV]; rfl) | (rw [LR.ren (by rw [l2] <;> rfl) (by rw [l6] <;> rfl)]; rfl)) ?_)) ⟨by have := hκ.hm; omega, fun i hi => by have := hκ.hm; omega⟩ ⟨by simp, rfl⟩
          · rw [← hl1]; simp [okB, hok1, hv, ha]
          · have aset := marks_set (i := w.a) htk (by omega)
            simpa only [List.any_append, List.any_cons, List.any_nil, Bool.or_false] using aset
        · simp (disch := omega) only [push_cast, simprocAttr, eW, cutB, pasteB, setEB]
          refine hκ.ret _ _ _ _ _ _ trivial rfl ?_
          exact bad (by simp [okB, ha]; omega)
      · simp (disch := omega) only [push_cast, simprocAttr, eW, cutB, pasteB, setEB]
        (repeat (refine ⟨by first | omega | (refine ⟨?_, ?_⟩ <;> omega) | trivial | (simp; done) | decide +kernel, fun _ => ?_⟩))
        refine OutOK_fork (fun h => (by first | (have h := of_decide_eq_true h; omega) | (simp only [Bool.not_true, Bool.not_false, decide_eq_true_eq, decide_eq_false_iff_not, Bool.not_eq_true', Bool.not_eq_false', Bool.and_eq_true, Bool.or_eq_false_iff, Bool.or_eq_true, Bool.and_eq_false_iff] at h; omega))) (fun _ => ?_)
        simp (disch := omega) only [push_cast, simprocAttr, eW, cutB, pasteB, setEB]
        refine Sat.via (fun i => i) (hz (mt.set w.v.toNat true) tk ?_ mv ?_) (by intro i j; omega) (by repeat' (first | exact EnvVia.nil | refine EnvVia.cons (by first | trivial | decide | (simp [SV.bnd, SV.bndL]; done)) rfl ?_)) (by repeat' (first | exact HeapVia.nil | refine HeapVia.cons (by decide) (by first | trivial | exact Blk.bnd_own0 (by assumption) | (simp [Blk.bnd, SV.bnd, SV.bndL]; done) | exact bndL_mapV _ _ _ | exact LR.bnd (by rw [l2]; simp [bndE, SV.bnd, SV.bndL]) (by rw [l6]; decide)) (by first | (rw [Blk.ren_own0 (by assumption)]; rfl) | rfl | (simp only [Blk.ren, renL_mapV]; rfl) | (rw [LR.ren (by rw [l2] <;> rfl) (by rw [l6] <;> rfl)]; rfl)) ?_)) ⟨by have := hκ.hm; omega, fun i hi => by have := hκ.hm; omega⟩ ⟨by simp, rfl⟩
        · rw [← hl1]
          have : ¬ 0 ≤ w.a := by omega
          simp [okB, hok1, hv, this]
        · refine ⟨htk.1, fun i hi => ?_⟩
          have : ¬ w.a = i := by omega
          rw [htk.2 i hi]
          simp [this]
    · simp (disch := omega) only [push_cast, simprocAttr, eW, cutB, pasteB, setEB]
      obtain rfl : k = l.length := by omega
      refine hκ.ret _ _ _ _ _ _ trivial rfl ?_
      rw [← hl1, List.drop_length, okWs]
      exact .ret trivial
end Go.Proofs.YtnjgmjcokcfmkaaDoor

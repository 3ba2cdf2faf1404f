/- The document's words: an event from bytes. No condition. -/
import Derived.Test.YtmieikflcolbaaaRa
import Derived.Test.YtmieikflcolbaaaRb
import Derived.Test.YtmieikflcolbaaaRc
import Derived.Test.YtmieikflcolbaaaRd
namespace Go.Proofs.Ytmieikflcolbaaa
open Go Go.Sy
set_option maxRecDepth 100000
set_option linter.unusedSimpArgs false
set_option linter.unusedVariables false
set_option maxHeartbeats 4000000
def tC (q : Evt × List Int × Int) (c : Nat) : Evt × List Int × Int :=
  if c = 109 then (upd (upd q.1 13 (tN q.2.1 0 4)) 14 (tN (tR q.2.1 0 4) (tE q.2.1 0 4) 4), tR (tR q.2.1 0 4) (tE q.2.1 0 4) 4, tE (tR q.2.1 0 4) (tE q.2.1 0 4) 4)
  else if c = 77 then (upd (upd q.1 24 (tN q.2.1 0 4)) 25 (tN (tR q.2.1 0 4) (tE q.2.1 0 4) 4), tR (tR q.2.1 0 4) (tE q.2.1 0 4) 4, tE (tR q.2.1 0 4) (tE q.2.1 0 4) 4)
  else if c = 110 then (setL q.1 (tLs q.2.1).1, (tLs q.2.1).2) else if c = 78 then (setM q.1 (tLs q.2.1).1, (tLs q.2.1).2)
  else (upd q.1 (cel c) (IntKind.i64.wrap (tN q.2.1 0 (wid c))), tR q.2.1 0 (wid c), if c = 102 ∧ 1 < tN q.2.1 0 (wid c) then 361 else tE q.2.1 0 (wid c))
def tCs : List Nat → Evt × List Int × Int → Evt × List Int × Int
  | [], q => q
  | c :: l, q => if q.2.2 = 0 then tCs l (tC q c) else q
def k1 (r : List Int) : Int := if tE r 0 1 = 0 ∧ (tN r 0 1 < 1 ∨ 3 < tN r 0 1) then 361 else tE r 0 1
def k2 (r : List Int) : Int × List Int × Int := if tN r 0 1 = 3 then (0, tR r 0 1, k1 r) else (tN (tR r 0 1) (k1 r) 1, tR (tR r 0 1) (k1 r) 1, tE (tR r 0 1) (k1 r) 1)
def tA (r : List Int) : Evt × List Int × Int :=
  tCs ((fldR (tN r 0 1) (k2 r).1).getD []) (begR (tN r 0 1) (k2 r).1, (k2 r).2.1, if (k2 r).2.2 = 0 ∧ (fldR (tN r 0 1) (k2 r).1).isSome = false then 361 else (k2 r).2.2)
theorem tCs_err (l : List Nat) {q : Evt × List Int × Int} (h : q.2.2 ≠ 0) : tCs l q = q := by
  cases l with
  | nil => rfl
  | cons c l => rw [tCs, if_neg h]
theorem strB_get {l : List Nat} (hl : ∀ c ∈ l, c < 256) {k : Nat} (hk : k < l.length) : ((strB l).data.toList.getD k 0).toNat = l.getD k default := by
  have hm : l.getD k default ∈ l := by
    rw [List.getD, List.getElem?_eq_getElem hk]; exact List.getElem_mem _
  have h1 := hl _ hm
  simp only [strB, List.getD, List.getElem?_map, List.getElem?_eq_getElem hk, Option.map_some, Option.getD_some] at h1 ⊢
  rw [UInt8.toNat_ofNat']
  omega
theorem strB_size (l : List Nat) : (strB l).size = l.length := by simp [strB, ByteArray.size]
theorem U0_lt : ∀ c ∈ U0, c < 256 := by decide
theorem U01 : ∀ c ∈ U0, c ≠ 109 → c ≠ 77 → c ≠ 110 → c ≠ 78 → c ∈ U1 := by decide
theorem fldR_U {k s : Int} : ∀ c ∈ (fldR k s).getD [], c ∈ U0 := by
  unfold fldR
  intro c hc
  split at hc
  · cases h : callL s with
    | none => rw [h] at hc; cases hc
    | some l => rw [h] at hc; exact (callL_U h).2 c hc
  split at hc
  · cases h : liveL s with
    | none => rw [h] at hc; cases hc
    | some l => rw [h] at hc; exact (liveL_U h).2 c hc
  split at hc
  · rw [List.mem_singleton.1 hc]; decide
  · cases hc
theorem fldR_len {k s : Int} : ((fldR k s).getD []).length ≤ 4 := by
  unfold fldR
  repeat' split
  · cases h : callL s with
    | none => exact Nat.zero_le _
    | some l => exact callL_len h
  · cases h : liveL s with
    | none => exact Nat.zero_le _
    | some l => exact liveL_len h
  · decide
  · decide
theorem tL_Y : ∀ (n : Nat) {r : List Int} {e : Int}, isY r → isY (tL n r e).2.1
  | 0, _, _, h => h
  | n + 1, r, e, h => by
    rw [tL]
    split
    · exact tL_Y n (tR_Y h)
    · exact h
theorem tL_len : ∀ (n : Nat) (r : List Int) (e : Int), (tL n r e).2.1.length ≤ r.length
  | 0, _, _ => Nat.le_refl _
  | n + 1, r, e => by
    rw [tL]
    split
    · exact Nat.le_trans (tL_len n _ _) tR_len
    · exact Nat.le_refl _
theorem tLs_Y {r : List Int} (h : isY r) : isY (tLs r).2.1 := tL_Y _ (tR_Y h)
theorem tLs_len (r : List Int) : (tLs r).2.1.length ≤ r.length := Nat.le_trans (tL_len _ _ _) tR_len
theorem oec2 (a b : Evt) : over (ec a) (ec b) = some (ec b) := rfl
theorem act_ok (r : List Int) (hr : isY r) (hn : r.length < 2 ^ 46) : Con Try.prog gl0 (fnv 31) [.ptr 0 0 0 0] 1 [(0, Tk r 0)] (RetK (Ev (tA r).1) (Tk (tA r).2.1 (tA r).2.2)) := by
  have c1 := number48_ok r 0 1 hr hn (by decide)
  have b1 := tN_bd (e := 0) 1 hr
  have y1 := tR_Y (e := 0) (w := 1) hr
  have l1 : (tR r 0 1).length < 2 ^ 46 := Nat.lt_of_le_of_lt tR_len hn
  have hk1 : k1 r = if tE r 0 1 = 0 ∧ (tN r 0 1 < 1 ∨ 3 < tN r 0 1) then 361 else tE r 0 1 := rfl
  have hk2 : k2 r = if tN r 0 1 = 3 then (0, tR r 0 1, k1 r) else (tN (tR r 0 1) (k1 r) 1, tR (tR r 0 1) (k1 r) 1, tE (tR r 0 1) (k1 r) 1) := rfl
  rw [tA]
  simp only [Int.pow_one] at b1
  generalize k2 r = p at *
  generalize k1 r = e1' at *
  generalize tR r 0 1 = r1 at *
  generalize tE r 0 1 = e1 at *
  generalize tN r 0 1 = k at *
  have wk : IntKind.i64.wrap k = k := wrap_i64 (by omega) (by omega)
  refine Con.of Try.ok31 (nt := 116) (res := [.cell 2 37]) Try.mixed Try.func31 rfl rfl rfl rfl fun κ xc hκ => hκ.run 300 ?_
  simp (disch := omega) only [push_cast, simprocAttr, wk]
  refine Does.keep hκ.hP hκ.hgl 0 [.ptr 0 0 0 0, I 1] c1 rfl ⟨trivial, by first | (simp [SV.bnd, SV.bndL]; done) | (simp [SV.bnd, SV.bndL, ec_bnd]; done), by first | (simp [SV.bnd, SV.bndL]; done) | (simp [SV.bnd, SV.bndL, ec_bnd]; done) | assumption⟩ ⟨Tk.good.1, Tk.good.2, Tk.good.1⟩ rfl (by first | omega | (dsimp only; omega)) ?_
  apply Sat.join (α := Unit) (nx := 2) (dfs := []) (fun _ => True) (fun _ => ([(4, I 0), (3, I k), (2, .ptr 1 0 0 0), (0, .ptr 0 0 0 0)], [(0, Tk r1 e1'), (1, .own [I 0, I 0, I 0, I 0, I 0, Bo false, .v (.slice none 0 0), I 0, I 0, I 0, I 0, I 0, I 0, U 0, U 0, I 0, I 0, I 0, I 0, I 0, I 0, I 0, I 0, I 0, U 0, U 0, U 0, .v (.slice none 0 0), I 0] 37)]))
  · intro hj
    have hj := hj () trivial
    dsimp only at hj
    by_cases he : e1 = 0
    · by_cases h1 : k < 1
      · rw [if_pos ⟨he, Or.inl h1⟩] at hk1
        rw [hk1] at hj
        have q1 : (k < 1) = True := by first | (simp only [eq_iff_iff, iff_true]; first | assumption | omega) | (simp; omega)
        refine hκ.runA 5 300 ?_
        simp (disch := omega) only [push_cast, simprocAttr, he, q1, wk]
        exact hj.less (by repeat' (first | exact EnvSub.nil _ | exact HeapSub.nil _ | refine EnvSub.cons rfl ?_ | refine HeapSub.cons rfl ?_ | (refine EnvSub.cons (by simp [Env.get]; done) ?_) | (refine HeapSub.cons (by simp [Heap.get]; done) ?_))) (by repeat' (first | exact EnvSub.nil _ | exact HeapSub.nil _ | refine EnvSub.cons rfl ?_ | refine HeapSub.cons rfl ?_ | (refine EnvSub.cons (by simp [Env.get]; done) ?_) | (refine HeapSub.cons (by simp [Heap.get]; done) ?_)))
      by_cases h2 : 3 < k
      · rw [if_pos ⟨he, Or.inr h2⟩] at hk1
        rw [hk1] at hj
        have q1 : (k < 1) = False := by first | (simp only [eq_iff_iff, iff_false]; first | assumption | omega) | (simp; omega)
        have q2 : (3 < k) = True := by first | (simp only [eq_iff_iff, iff_true]; first | assumption | omega) | (simp; omega)
        refine hκ.runA 5 300 ?_
        simp (disch := omega) only [push_cast, simprocAttr, he, q1, q2, wk]
        exact hj.less (by repeat' (first | exact EnvSub.nil _ | exact HeapSub.nil _ | refine EnvSub.cons rfl ?_ | refine HeapSub.cons rfl ?_ | (refine EnvSub.cons (by simp [Env.get]; done) ?_) | (refine HeapSub.cons (by simp [Heap.get]; done) ?_))) (by repeat' (first | exact EnvSub.nil _ | exact HeapSub.nil _ | refine EnvSub.cons rfl ?_ | refine HeapSub.cons rfl ?_ | (refine EnvSub.cons (by simp [Env.get]; done) ?_) | (refine HeapSub.cons (by simp [Heap.get]; done) ?_)))
      rw [if_neg (by omega)] at hk1
      rw [hk1, he] at hj
      have q1 : (k < 1) = False := by first | (simp only [eq_iff_iff, iff_false]; first | assumption | omega) | (simp; omega)
      have q2 : (3 < k) = False := by first | (simp only [eq_iff_iff, iff_false]; first | assumption | omega) | (simp; omega)
      refine hκ.runA 5 300 ?_
      simp (disch := omega) only [push_cast, simprocAttr, he, q1, q2, wk]
      exact hj.less (by repeat' (first | exact EnvSub.nil _ | exact HeapSub.nil _ | refine EnvSub.cons rfl ?_ | refine HeapSub.cons rfl ?_ | (refine EnvSub.cons (by simp [Env.get]; done) ?_) | (refine HeapSub.cons (by simp [Heap.get]; done) ?_))) (by repeat' (first | exact EnvSub.nil _ | exact HeapSub.nil _ | refine EnvSub.cons rfl ?_ | refine HeapSub.cons rfl ?_ | (refine EnvSub.cons (by simp [Env.get]; done) ?_) | (refine HeapSub.cons (by simp [Heap.get]; done) ?_)))
    · rw [if_neg (fun h => he h.1)] at hk1
      rw [hk1] at hj
      refine hκ.runA 5 300 ?_
      simp (disch := omega) only [push_cast, simprocAttr, he, wk]
      exact hj.less (by repeat' (first | exact EnvSub.nil _ | exact HeapSub.nil _ | refine EnvSub.cons rfl ?_ | refine HeapSub.cons rfl ?_ | (refine EnvSub.cons (by simp [Env.get]; done) ?_) | (refine HeapSub.cons (by simp [Heap.get]; done) ?_))) (by repeat' (first | exact EnvSub.nil _ | exact HeapSub.nil _ | refine EnvSub.cons rfl ?_ | refine HeapSub.cons rfl ?_ | (refine EnvSub.cons (by simp [Env.get]; done) ?_) | (refine HeapSub.cons (by simp [Heap.get]; done) ?_)))
  intro _ _
  dsimp only
  clear hk1 c1
  have hp : 0 ≤ p.1 ∧ p.1 < 256 ∧ isY p.2.1 ∧ p.2.1.length < 2 ^ 46 := by
    rw [hk2]
    split
    · exact ⟨Int.le_refl 0, (by decide : (0 : Int) < 256), y1, l1⟩
    · have := tN_bd (e := e1') 1 y1
      simp only [Int.pow_one] at this
      exact ⟨this.1, this.2, tR_Y y1, Nat.lt_of_le_of_lt tR_len l1⟩
  apply Sat.join (α := Unit) (nx := 2) (dfs := []) (fun _ => True) (fun _ => ([(4, I p.1), (3, I k), (2, .ptr 1 0 0 0), (0, .ptr 0 0 0 0)], [(0, Tk p.2.1 p.2.2), (1, .own [I 0, I 0, I 0, I 0, I 0, Bo false, .v (.slice none 0 0), I 0, I 0, I 0, I 0, I 0, I 0, U 0, U 0, I 0, I 0, I 0, I 0, I 0, I 0, I 0, I 0, I 0, U 0, U 0, U 0, .v (.slice none 0 0), I 0] 37)]))
  · intro hj
    have hj := hj () trivial
    dsimp only at hj
    by_cases h3 : k = 3
    · rw [if_pos h3] at hk2
      rw [hk2, h3] at hj
      dsimp only at hj
      refine hκ.runA 7 300 ?_
      simp (disch := omega) only [push_cast, simprocAttr, h3]
      exact hj.less (by repeat' (first | exact EnvSub.nil _ | exact HeapSub.nil _ | refine EnvSub.cons rfl ?_ | refine HeapSub.cons rfl ?_ | (refine EnvSub.cons (by simp [Env.get]; done) ?_) | (refine HeapSub.cons (by simp [Heap.get]; done) ?_))) (by repeat' (first | exact EnvSub.nil _ | exact HeapSub.nil _ | refine EnvSub.cons rfl ?_ | refine HeapSub.cons rfl ?_ | (refine EnvSub.cons (by simp [Env.get]; done) ?_) | (refine HeapSub.cons (by simp [Heap.get]; done) ?_)))
    · rw [if_neg h3] at hk2
      have c2 := number48_ok r1 e1' 1 y1 l1 (by decide)
      rw [hk2] at hj hp
      dsimp only at hj hp
      have wk : IntKind.i64.wrap (tN r1 e1' 1) = tN r1 e1' 1 := wrap_i64 (by omega) (by omega)
      refine hκ.runA 7 300 ?_
      simp (disch := omega) only [push_cast, simprocAttr, h3, wk]
      refine Does.keep hκ.hP hκ.hgl 0 [.ptr 0 0 0 0, I 1] c2 rfl ⟨trivial, by first | (simp [SV.bnd, SV.bndL]; done) | (simp [SV.bnd, SV.bndL, ec_bnd]; done), by first | (simp [SV.bnd, SV.bndL]; done) | (simp [SV.bnd, SV.bndL, ec_bnd]; done) | assumption⟩ ⟨Tk.good.1, Tk.good.2, Tk.good.1⟩ rfl (by first | omega | (dsimp only; omega)) ?_
      refine hκ.runA 7 300 ?_
      simp (disch := omega) only [push_cast, simprocAttr, h3, wk]
      exact hj.less (by repeat' (first | exact EnvSub.nil _ | exact HeapSub.nil _ | refine EnvSub.cons rfl ?_ | refine HeapSub.cons rfl ?_ | (refine EnvSub.cons (by simp [Env.get]; done) ?_) | (refine HeapSub.cons (by simp [Heap.get]; done) ?_))) (by repeat' (first | exact EnvSub.nil _ | exact HeapSub.nil _ | refine EnvSub.cons rfl ?_ | refine HeapSub.cons rfl ?_ | (refine EnvSub.cons (by simp [Env.get]; done) ?_) | (refine HeapSub.cons (by simp [Heap.get]; done) ?_)))
  intro _ _
  dsimp only
  clear hk2
  obtain ⟨s, r2, e2⟩ := p
  obtain ⟨s0, s1, y2, l2⟩ := hp
  dsimp only at hκ s0 s1 y2 l2 ⊢
  have cf := fields_ok k s
  have cb := begun_ok k s
  have fU := fldR_U (k := k) (s := s)
  have f4 := fldR_len (k := k) (s := s)
  generalize begR k s = ev at *
  generalize hb : (fldR k s).isSome = ok at *
  generalize (fldR k s).getD [] = l at *
  clear hb
  refine hκ.run 300 ?_
  simp (disch := omega) only [push_cast, simprocAttr]
  refine Does.ret hκ.hP hκ.hgl cf ⟨trivial, by first | (simp [SV.bnd, SV.bndL]; done) | (simp [SV.bnd, SV.bndL, ec_bnd]; done), by first | (simp [SV.bnd, SV.bndL]; done) | (simp [SV.bnd, SV.bndL, ec_bnd]; done) | assumption⟩ ?_
  apply Sat.join (α := Unit) (nx := 2) (dfs := []) (fun _ => True) (fun _ => ([(5, .v (.string (strB l))), (4, I s), (3, I k), (2, .ptr 1 0 0 0), (0, .ptr 0 0 0 0)], [(0, Tk r2 (if e2 = 0 ∧ ok = false then 361 else e2)), (1, .own [I 0, I 0, I 0, I 0, I 0, Bo false, .v (.slice none 0 0), I 0, I 0, I 0, I 0, I 0, I 0, U 0, U 0, I 0, I 0, I 0, I 0, I 0, I 0, I 0, I 0, I 0, U 0, U 0, U 0, .v (.slice none 0 0), I 0] 37)]))
  · intro hj
    have hj := hj () trivial
    dsimp only at hj
    by_cases he : e2 = 0
    · by_cases ho : ok = true
      · rw [if_neg (by simp [ho]), he] at hj
        refine hκ.runA 10 300 ?_
        simp (disch := omega) only [push_cast, simprocAttr, he, ho]
        exact hj.less (by repeat' (first | exact EnvSub.nil _ | exact HeapSub.nil _ | refine EnvSub.cons rfl ?_ | refine HeapSub.cons rfl ?_ | (refine EnvSub.cons (by simp [Env.get]; done) ?_) | (refine HeapSub.cons (by simp [Heap.get]; done) ?_))) (by repeat' (first | exact EnvSub.nil _ | exact HeapSub.nil _ | refine EnvSub.cons rfl ?_ | refine HeapSub.cons rfl ?_ | (refine EnvSub.cons (by simp [Env.get]; done) ?_) | (refine HeapSub.cons (by simp [Heap.get]; done) ?_)))
      · rw [Bool.not_eq_true] at ho
        rw [if_pos ⟨he, ho⟩] at hj
        refine hκ.runA 10 300 ?_
        simp (disch := omega) only [push_cast, simprocAttr, he, ho]
        exact hj.less (by repeat' (first | exact EnvSub.nil _ | exact HeapSub.nil _ | refine EnvSub.cons rfl ?_ | refine HeapSub.cons rfl ?_ | (refine EnvSub.cons (by simp [Env.get]; done) ?_) | (refine HeapSub.cons (by simp [Heap.get]; done) ?_))) (by repeat' (first | exact EnvSub.nil _ | exact HeapSub.nil _ | refine EnvSub.cons rfl ?_ | refine HeapSub.cons rfl ?_ | (refine EnvSub.cons (by simp [Env.get]; done) ?_) | (refine HeapSub.cons (by simp [Heap.get]; done) ?_)))
    · rw [if_neg (fun h => he h.1)] at hj
      refine hκ.runA 10 300 ?_
      simp (disch := omega) only [push_cast, simprocAttr, he]
      exact hj.less (by repeat' (first | exact EnvSub.nil _ | exact HeapSub.nil _ | refine EnvSub.cons rfl ?_ | refine HeapSub.cons rfl ?_ | (refine EnvSub.cons (by simp [Env.get]; done) ?_) | (refine HeapSub.cons (by simp [Heap.get]; done) ?_))) (by repeat' (first | exact EnvSub.nil _ | exact HeapSub.nil _ | refine EnvSub.cons rfl ?_ | refine HeapSub.cons rfl ?_ | (refine EnvSub.cons (by simp [Env.get]; done) ?_) | (refine HeapSub.cons (by simp [Heap.get]; done) ?_)))
  intro _ _
  dsimp only
  generalize (if e2 = 0 ∧ ok = false then (361 : Int) else e2) = e3 at *
  refine hκ.run 300 ?_
  simp (disch := omega) only [push_cast, simprocAttr, tec, lec, oec, ones_ec]
  refine Does.ret hκ.hP hκ.hgl cb ⟨trivial, by first | (simp [SV.bnd, SV.bndL]; done) | (simp [SV.bnd, SV.bndL, ec_bnd]; done), by first | (simp [SV.bnd, SV.bndL]; done) | (simp [SV.bnd, SV.bndL, ec_bnd]; done) | assumption⟩ ?_
  refine hκ.run 300 ?_
  simp (disch := omega) only [push_cast, simprocAttr, tec, lec, oec, ones_ec]
  refine Sat.less (Sat.loop (γ := Nat × Evt × List Int × Int) (fun g => ([(8, I g.1), (7, .ptr 2 0 0 0), (5, .v (.string (strB l))), (4, I s), (3, I k), (2, .ptr 1 0 0 0), (0, .ptr 0 0 0 0)], [(2, .own (ec g.2.1) 37), (0, Tk g.2.2.1 g.2.2.2), (1, .own [I 0, I 0, I 0, I 0, I 0, Bo false, .v (.slice none 0 0), I 0, I 0, I 0, I 0, I 0, I 0, U 0, U 0, I 0, I 0, I 0, I 0, I 0, I 0, I 0, I 0, I 0, U 0, U 0, U 0, .v (.slice none 0 0), I 0] 37)], 3)) (fun g => l.length - g.1)
    (fun g => g.1 ≤ l.length ∧ isY g.2.2.1 ∧ g.2.2.1.length < 2 ^ 46 ∧ tCs (l.drop g.1) (g.2.1, g.2.2.1, g.2.2.2) = tCs l (ev, r2, e3)) ?round (0, ev, r2, e3) ⟨Nat.zero_le _, y2, l2, rfl⟩) (by repeat' (first | exact EnvSub.nil _ | exact HeapSub.nil _ | refine EnvSub.cons rfl ?_ | refine HeapSub.cons rfl ?_ | (refine EnvSub.cons (by simp [Env.get]; done) ?_) | (refine HeapSub.cons (by simp [Heap.get]; done) ?_))) (by repeat' (first | exact EnvSub.nil _ | exact HeapSub.nil _ | refine EnvSub.cons rfl ?_ | refine HeapSub.cons rfl ?_ | (refine EnvSub.cons (by simp [Env.get]; done) ?_) | (refine HeapSub.cons (by simp [Heap.get]; done) ?_)))
  case round =>
    rintro ⟨n, a, r', e'⟩ ⟨hnl, hy, hl', ht⟩ ih
    dsimp only at hnl hy hl' ht ih ⊢
    by_cases hn2 : n < l.length
    · have q1 : ((n : Int) < l.length) = True := by first | (simp only [eq_iff_iff, iff_true]; first | assumption | omega) | (simp; omega)
      by_cases he : e' = 0
      · have hc0 : l.drop n = l.getD n default :: l.drop (n + 1) := by
          rw [List.drop_eq_getElem_cons hn2, List.getD, List.getElem?_eq_getElem hn2]; rfl
        have hm : l.getD n default ∈ l := by
          rw [List.getD, List.getElem?_eq_getElem hn2]; exact List.getElem_mem _
        have hg := strB_get (fun c hc => U0_lt c (fU c hc)) hn2
        have hs := strB_size l
        rw [hc0, tCs, if_pos he] at ht
        have hU := fU _ hm
        generalize l.getD n default = c at *
        rw [he] at ht
        refine hκ.run 300 ?_
        simp (disch := omega) only [push_cast, simprocAttr, he, q1, hs]
        (repeat (refine ⟨by first | omega | (refine ⟨?_, ?_⟩ <;> omega) | trivial | (simp; done) | decide +kernel, fun _ => ?_⟩))
        rw [hg]
        clear hg hm he
        have hz := fun q => ih (n + 1, q)
        dsimp only at hz
        clear ih
        have hk2 : l.length - (n + 1) < l.length - n := by omega
        by_cases h1 : c = 109
        · subst h1
          rw [tC, if_pos rfl] at ht
          have cm := mask55_ok r' hy hl'
          have g1 := tR_Y (e := tE r' 0 4) (w := 4) (tR_Y (e := 0) (w := 4) hy)
          have g2 : (tR (tR r' 0 4) (tE r' 0 4) 4).length < 2 ^ 46 := Nat.lt_of_le_of_lt tR_len (Nat.lt_of_le_of_lt tR_len hl')
          dsimp only at ht
          generalize tR (tR r' 0 4) (tE r' 0 4) 4 = x1 at *
          generalize tE (tR r' 0 4) (tE r' 0 4) 4 = x2 at *
          generalize tN (tR r' 0 4) (tE r' 0 4) 4 = x3 at *
          generalize tN r' 0 4 = x4 at *
          have hz := hz (upd (upd a 13 x4) 14 x3, x1, x2) ⟨by omega, g1, g2, ht⟩ hk2
          dsimp only at hz
          simp (disch := omega) only [push_cast, simprocAttr]
          refine Does.keep hκ.hP hκ.hgl 0 [.ptr 0 0 0 0] cm rfl ⟨trivial, by first | (simp [SV.bnd, SV.bndL]; done) | (simp [SV.bnd, SV.bndL, ec_bnd]; done), by first | (simp [SV.bnd, SV.bndL]; done) | (simp [SV.bnd, SV.bndL, ec_bnd]; done) | assumption⟩ ⟨Tk.good.1, Tk.good.2, Tk.good.1⟩ rfl (by first | omega | (dsimp only; omega)) ?_
          refine hκ.run 300 ?_
          simp (disch := omega) only [push_cast, simprocAttr, ec]
          exact hz.less (by repeat' (first | exact EnvSub.nil _ | exact HeapSub.nil _ | refine EnvSub.cons rfl ?_ | refine HeapSub.cons rfl ?_ | (refine EnvSub.cons (by simp [Env.get]; done) ?_) | (refine HeapSub.cons (by simp [Heap.get]; done) ?_))) (by repeat' (first | exact EnvSub.nil _ | exact HeapSub.nil _ | refine EnvSub.cons rfl ?_ | refine HeapSub.cons rfl ?_ | (refine EnvSub.cons (by simp [Env.get]; done) ?_) | (refine HeapSub.cons (by simp [Heap.get]; done) ?_)))
        rw [tC, if_neg h1] at ht
        by_cases h2 : c = 77
        · subst h2
          rw [if_pos rfl] at ht
          have cm := mask55_ok r' hy hl'
          have g1 := tR_Y (e := tE r' 0 4) (w := 4) (tR_Y (e := 0) (w := 4) hy)
          have g2 : (tR (tR r' 0 4) (tE r' 0 4) 4).length < 2 ^ 46 := Nat.lt_of_le_of_lt tR_len (Nat.lt_of_le_of_lt tR_len hl')
          dsimp only at ht
          generalize tR (tR r' 0 4) (tE r' 0 4) 4 = x1 at *
          generalize tE (tR r' 0 4) (tE r' 0 4) 4 = x2 at *
          generalize tN (tR r' 0 4) (tE r' 0 4) 4 = x3 at *
          generalize tN r' 0 4 = x4 at *
          have hz := hz (upd (upd a 24 x4) 25 x3, x1, x2) ⟨by omega, g1, g2, ht⟩ hk2
          dsimp only at hz
          simp (disch := omega) only [push_cast, simprocAttr]
          refine Does.keep hκ.hP hκ.hgl 0 [.ptr 0 0 0 0] cm rfl ⟨trivial, by first | (simp [SV.bnd, SV.bndL]; done) | (simp [SV.bnd, SV.bndL, ec_bnd]; done), by first | (simp [SV.bnd, SV.bndL]; done) | (simp [SV.bnd, SV.bndL, ec_bnd]; done) | assumption⟩ ⟨Tk.good.1, Tk.good.2, Tk.good.1⟩ rfl (by first | omega | (dsimp only; omega)) ?_
          refine hκ.run 300 ?_
          simp (disch := omega) only [push_cast, simprocAttr, ec]
          exact hz.less (by repeat' (first | exact EnvSub.nil _ | exact HeapSub.nil _ | refine EnvSub.cons rfl ?_ | refine HeapSub.cons rfl ?_ | (refine EnvSub.cons (by simp [Env.get]; done) ?_) | (refine HeapSub.cons (by simp [Heap.get]; done) ?_))) (by repeat' (first | exact EnvSub.nil _ | exact HeapSub.nil _ | refine EnvSub.cons rfl ?_ | refine HeapSub.cons rfl ?_ | (refine EnvSub.cons (by simp [Env.get]; done) ?_) | (refine HeapSub.cons (by simp [Heap.get]; done) ?_)))
        rw [if_neg h2] at ht
        by_cases h3 : c = 110
        · subst h3
          rw [if_pos rfl] at ht
          have cm := list56_ok r' hy hl'
          have g1 := tLs_Y hy
          have g2 : (tLs r').2.1.length < 2 ^ 46 := Nat.lt_of_le_of_lt (tLs_len r') hl'
          dsimp only at ht
          generalize tLs r' = x at *
          have hz := hz (setL a x.1, x.2.1, x.2.2) ⟨by omega, g1, g2, ht⟩ hk2
          dsimp only at hz
          simp (disch := omega) only [push_cast, simprocAttr]
          refine Does.keep hκ.hP hκ.hgl 0 [.ptr 0 0 0 0] cm rfl ⟨trivial, by first | (simp [SV.bnd, SV.bndL]; done) | (simp [SV.bnd, SV.bndL, ec_bnd]; done), by first | (simp [SV.bnd, SV.bndL]; done) | (simp [SV.bnd, SV.bndL, ec_bnd]; done) | assumption⟩ ⟨Tk.good.1, Tk.good.2, Tk.good.1⟩ rfl (by first | omega | (dsimp only; omega)) ?_
          refine hκ.run 300 ?_
          simp (disch := omega) only [push_cast, simprocAttr, ec]
          exact hz.less (by repeat' (first | exact EnvSub.nil _ | exact HeapSub.nil _ | refine EnvSub.cons rfl ?_ | refine HeapSub.cons rfl ?_ | (refine EnvSub.cons (by simp [Env.get]; done) ?_) | (refine HeapSub.cons (by simp [Heap.get]; done) ?_))) (by repeat' (first | exact EnvSub.nil _ | exact HeapSub.nil _ | refine EnvSub.cons rfl ?_ | refine HeapSub.cons rfl ?_ | (refine EnvSub.cons (by simp [Env.get]; done) ?_) | (refine HeapSub.cons (by simp [Heap.get]; done) ?_)))
        rw [if_neg h3] at ht
        by_cases h4 : c = 78
        · subst h4
          rw [if_pos rfl] at ht
          have cm := list56_ok r' hy hl'
          have g1 := tLs_Y hy
          have g2 : (tLs r').2.1.length < 2 ^ 46 := Nat.lt_of_le_of_lt (tLs_len r') hl'
          dsimp only at ht
          generalize tLs r' = x at *
          have hz := hz (setM a x.1, x.2.1, x.2.2) ⟨by omega, g1, g2, ht⟩ hk2
          dsimp only at hz
          simp (disch := omega) only [push_cast, simprocAttr]
          refine Does.keep hκ.hP hκ.hgl 0 [.ptr 0 0 0 0] cm rfl ⟨trivial, by first | (simp [SV.bnd, SV.bndL]; done) | (simp [SV.bnd, SV.bndL, ec_bnd]; done), by first | (simp [SV.bnd, SV.bndL]; done) | (simp [SV.bnd, SV.bndL, ec_bnd]; done) | assumption⟩ ⟨Tk.good.1, Tk.good.2, Tk.good.1⟩ rfl (by first | omega | (dsimp only; omega)) ?_
          refine hκ.run 300 ?_
          simp (disch := omega) only [push_cast, simprocAttr, ec]
          exact hz.less (by repeat' (first | exact EnvSub.nil _ | exact HeapSub.nil _ | refine EnvSub.cons rfl ?_ | refine HeapSub.cons rfl ?_ | (refine EnvSub.cons (by simp [Env.get]; done) ?_) | (refine HeapSub.cons (by simp [Heap.get]; done) ?_))) (by repeat' (first | exact EnvSub.nil _ | exact HeapSub.nil _ | refine EnvSub.cons rfl ?_ | refine HeapSub.cons rfl ?_ | (refine EnvSub.cons (by simp [Env.get]; done) ?_) | (refine HeapSub.cons (by simp [Heap.get]; done) ?_)))
        rw [if_neg h4] at ht
        have hU1 := U01 c hU h1 h2 h3 h4
        have cw := width_ok c hU1
        have cn := number48_ok r' 0 (wid c) hy hl' (wid_le c)
        have g1 := tR_Y (e := 0) (w := wid c) hy
        have g2 : (tR r' 0 (wid c)).length < 2 ^ 46 := Nat.lt_of_le_of_lt tR_len hl'
        have hS : c = 83 → 0 ≤ IntKind.i64.wrap (tN r' 0 (wid c)) ∧ IntKind.i64.wrap (tN r' 0 (wid c)) < 2 ^ 32 := by
          intro h
          subst h
          have := tN_bd (e := 0) (wid 83) hy
          rw [show wid 83 = 4 from rfl] at this ⊢
          simp only [Int.reducePow] at this
          rw [wrap_i64 (by omega) (by omega)]
          exact this
        have cp := put40_ok a c (IntKind.i64.wrap (tN r' 0 (wid c))) hU1 hS
        dsimp only at ht
        clear hS
        generalize tR r' 0 (wid c) = x1 at *
        generalize tE r' 0 (wid c) = x2 at *
        generalize tN r' 0 (wid c) = x3 at *
        generalize wid c = w at *
        have hz := hz (upd a (cel c) (IntKind.i64.wrap x3), x1, if c = 102 ∧ 1 < x3 then 361 else x2) ⟨by omega, g1, g2, ht⟩ hk2
        generalize upd a (cel c) (IntKind.i64.wrap x3) = ev' at *
        dsimp only at hz
        have z1 : ((c : Int) = 109) = False := by first | (simp only [eq_iff_iff, iff_false]; first | assumption | omega) | (simp; omega)
        have z2 : ((c : Int) = 77) = False := by first | (simp only [eq_iff_iff, iff_false]; first | assumption | omega) | (simp; omega)
        have z3 : ((c : Int) = 110) = False := by first | (simp only [eq_iff_iff, iff_false]; first | assumption | omega) | (simp; omega)
        have z4 : ((c : Int) = 78) = False := by first | (simp only [eq_iff_iff, iff_false]; first | assumption | omega) | (simp; omega)
        simp (disch := omega) only [push_cast, simprocAttr, z1, z2, z3, z4, tec, lec, oec, ones_ec]
        refine Does.ret hκ.hP hκ.hgl cw ⟨trivial, by first | (simp [SV.bnd, SV.bndL]; done) | (simp [SV.bnd, SV.bndL, ec_bnd]; done), by first | (simp [SV.bnd, SV.bndL]; done) | (simp [SV.bnd, SV.bndL, ec_bnd]; done) | assumption⟩ ?_
        refine hκ.run 300 ?_
        simp (disch := omega) only [push_cast, simprocAttr, z1, z2, z3, z4, tec, lec, oec, ones_ec]
        refine Does.keep hκ.hP hκ.hgl 0 [.ptr 0 0 0 0, I w] cn rfl ⟨trivial, by first | (simp [SV.bnd, SV.bndL]; done) | (simp [SV.bnd, SV.bndL, ec_bnd]; done), by first | (simp [SV.bnd, SV.bndL]; done) | (simp [SV.bnd, SV.bndL, ec_bnd]; done) | assumption⟩ ⟨Tk.good.1, Tk.good.2, Tk.good.1⟩ rfl (by first | omega | (dsimp only; omega)) ?_
        by_cases h5 : c = 102
        · have z5 : ((c : Int) = 102) = True := by first | (simp only [eq_iff_iff, iff_true]; first | assumption | omega) | (simp; omega)
          by_cases h6 : 1 < x3
          · rw [if_pos ⟨h5, h6⟩] at hz
            have z6 : (1 < x3) = True := by first | (simp only [eq_iff_iff, iff_true]; first | assumption | omega) | (simp; omega)
            refine hκ.run 300 ?_
            simp (disch := omega) only [push_cast, simprocAttr, z5, z6, tec, lec, oec, oec2, ones_ec]
            refine Does.ret hκ.hP hκ.hgl cp ⟨trivial, by first | (simp [SV.bnd, SV.bndL]; done) | (simp [SV.bnd, SV.bndL, ec_bnd]; done), by first | (simp [SV.bnd, SV.bndL]; done) | (simp [SV.bnd, SV.bndL, ec_bnd]; done) | assumption⟩ ?_
            refine hκ.run 300 ?_
            simp (disch := omega) only [push_cast, simprocAttr, z5, z6, tec, lec, oec, oec2, ones_ec]
            exact hz.less (by repeat' (first | exact EnvSub.nil _ | exact HeapSub.nil _ | refine EnvSub.cons rfl ?_ | refine HeapSub.cons rfl ?_ | (refine EnvSub.cons (by simp [Env.get]; done) ?_) | (refine HeapSub.cons (by simp [Heap.get]; done) ?_))) (by repeat' (first | exact EnvSub.nil _ | exact HeapSub.nil _ | refine EnvSub.cons rfl ?_ | refine HeapSub.cons rfl ?_ | (refine EnvSub.cons (by simp [Env.get]; done) ?_) | (refine HeapSub.cons (by simp [Heap.get]; done) ?_)))
          · rw [if_neg (fun h => h6 h.2)] at hz
            have z6 : (1 < x3) = False := by first | (simp only [eq_iff_iff, iff_false]; first | assumption | omega) | (simp; omega)
            refine hκ.run 300 ?_
            simp (disch := omega) only [push_cast, simprocAttr, z5, z6, tec, lec, oec, oec2, ones_ec]
            refine Does.ret hκ.hP hκ.hgl cp ⟨trivial, by first | (simp [SV.bnd, SV.bndL]; done) | (simp [SV.bnd, SV.bndL, ec_bnd]; done), by first | (simp [SV.bnd, SV.bndL]; done) | (simp [SV.bnd, SV.bndL, ec_bnd]; done) | assumption⟩ ?_
            refine hκ.run 300 ?_
            simp (disch := omega) only [push_cast, simprocAttr, z5, z6, tec, lec, oec, oec2, ones_ec]
            exact hz.less (by repeat' (first | exact EnvSub.nil _ | exact HeapSub.nil _ | refine EnvSub.cons rfl ?_ | refine HeapSub.cons rfl ?_ | (refine EnvSub.cons (by simp [Env.get]; done) ?_) | (refine HeapSub.cons (by simp [Heap.get]; done) ?_))) (by repeat' (first | exact EnvSub.nil _ | exact HeapSub.nil _ | refine EnvSub.cons rfl ?_ | refine HeapSub.cons rfl ?_ | (refine EnvSub.cons (by simp [Env.get]; done) ?_) | (refine HeapSub.cons (by simp [Heap.get]; done) ?_)))
        · rw [if_neg (fun h => h5 h.1)] at hz
          have z5 : ((c : Int) = 102) = False := by first | (simp only [eq_iff_iff, iff_false]; first | assumption | omega) | (simp; omega)
          refine hκ.run 300 ?_
          simp (disch := omega) only [push_cast, simprocAttr, z5, tec, lec, oec, oec2, ones_ec]
          refine Does.ret hκ.hP hκ.hgl cp ⟨trivial, by first | (simp [SV.bnd, SV.bndL]; done) | (simp [SV.bnd, SV.bndL, ec_bnd]; done), by first | (simp [SV.bnd, SV.bndL]; done) | (simp [SV.bnd, SV.bndL, ec_bnd]; done) | assumption⟩ ?_
          refine hκ.run 300 ?_
          simp (disch := omega) only [push_cast, simprocAttr, z5, tec, lec, oec, oec2, ones_ec]
          exact hz.less (by repeat' (first | exact EnvSub.nil _ | exact HeapSub.nil _ | refine EnvSub.cons rfl ?_ | refine HeapSub.cons rfl ?_ | (refine EnvSub.cons (by simp [Env.get]; done) ?_) | (refine HeapSub.cons (by simp [Heap.get]; done) ?_))) (by repeat' (first | exact EnvSub.nil _ | exact HeapSub.nil _ | refine EnvSub.cons rfl ?_ | refine HeapSub.cons rfl ?_ | (refine EnvSub.cons (by simp [Env.get]; done) ?_) | (refine HeapSub.cons (by simp [Heap.get]; done) ?_)))
      · rw [tCs_err _ he] at ht
        rw [← ht] at hκ
        refine hκ.run 300 ?_
        simp (disch := omega) only [push_cast, simprocAttr, q1, he, strB_size, tec, lec, oec, ones_ec]
        refine hκ.ret _ _ _ _ _ _ trivial rfl ?_
        exact Post.keep (ec_bnd _ _) Tk.good.1 Tk.good.2 rfl
    · obtain rfl : n = l.length := by omega
      rw [List.drop_length, tCs] at ht
      rw [← ht] at hκ
      have q1 : ((l.length : Int) < l.length) = False := by first | (simp only [eq_iff_iff, iff_false]; first | assumption | omega) | (simp; omega)
      refine hκ.run 300 ?_
      simp (disch := omega) only [push_cast, simprocAttr, q1, strB_size, tec, lec, oec, ones_ec]
      refine hκ.ret _ _ _ _ _ _ trivial rfl ?_
      exact Post.keep (ec_bnd _ _) Tk.good.1 Tk.good.2 rfl
end Go.Proofs.Ytmieikflcolbaaa

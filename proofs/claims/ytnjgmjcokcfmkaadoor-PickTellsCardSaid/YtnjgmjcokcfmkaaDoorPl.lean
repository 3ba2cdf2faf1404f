/- Walks of place: asked, Place. No condition. -/
import Derived.Test.YtnjgmjcokcfmkaaDoorPw
namespace Go.Proofs.YtnjgmjcokcfmkaaDoor
open Go Go.Sy
set_option maxRecDepth 100000
set_option linter.unusedSimpArgs false
set_option linter.unusedVariables false

def askE (l : List Wi) (free : Nat) : Int := if okWs [] l = true then (if free < 256 then 0 else 140) else 230
/-- The pCPU that a wish takes. -/
def takesW (w : Wi) (free : Nat) : Option Int := bestB w.m free w.a
/-- What is free behind that, who is placed, who waits, how many are moved. -/
structure Run where
  free : Nat
  puts : List (Int × Int)
  waits : List Int
  moved : Nat
def stepP (st : Run) (w : Wi) : Run := match takesW w st.free with
  | some c => ⟨dif st.free (2 ^ c.toNat), st.puts ++ [(w.v, c)], st.waits, if -1 < w.a ∧ w.a ≠ c then st.moved + 1 else st.moved⟩
  | none => ⟨st.free, st.puts, st.waits ++ [w.v], st.moved⟩
def runP (free : Nat) (l : List Wi) : Run := l.foldl stepP ⟨free, [], [], 0⟩
def eP (p : Int × Int) : List SV := [I p.1, I p.2]
abbrev Ps (l : List (Int × Int)) : SV := .rd 2 (l.map eP)
abbrev nilS : SV := .v (.slice none 0 0)
def placeV (l : List Wi) (free : Nat) : SV := if askE l free = 0 then .tup [Ps (runP free l).puts, S (runP free l).free, I 0] else .tup [nilS, S 0, I (askE l free)]
theorem runP_snoc (free : Nat) (l : List Wi) (w : Wi) : runP free (l ++ [w]) = stepP (runP free l) w := by simp [runP, List.foldl_append]
theorem runP_take {free : Nat} {l : List Wi} {k : Nat} (h : k < l.length) : runP free (l.take (k + 1)) = stepP (runP free (l.take k)) (l.getD k default) := by
  rw [List.take_succ_eq_append_getElem h, runP_snoc]; simp [List.getD, h]
theorem nextB_bd {s : Nat} {a c : Int} (h : nextB s a = some c) : hasB s c = true ∧ a < c := by
  refine ⟨mem_bits.1 (List.mem_of_find?_eq_some h), ?_⟩
  have := List.find?_some h
  simpa using this
theorem hasB_bd {s : Nat} {c : Int} (h : hasB s c = true) : 0 ≤ c ∧ c < 8 := by
  simp only [hasB, Bool.and_eq_true, decide_eq_true_eq] at h; exact h.1
theorem lik_sub {m : Msk} {s : Nat} {c : Int} (h : hasB (lik m s) c = true) : hasB (alw m s) c = true := by
  unfold lik at h
  split at h
  · simp only [hasB, Nat.testBit_and, Bool.and_eq_true] at h ⊢
    exact ⟨h.1, h.2.1⟩
  · exact h
theorem best_has {m : Msk} {s : Nat} {a c : Int} (h : bestB m s a = some c) : hasB (alw m s) c = true := by
  unfold bestB at h
  split at h
  · rename_i h1; cases h; exact h1
  · exact lik_sub (nextB_bd h).1
theorem takes_bd {w : Wi} {s : Nat} {c : Int} (h : takesW w s = some c) : 0 ≤ c ∧ c < 8 := hasB_bd (best_has h)
theorem runP_bd (free : Nat) (l : List Wi) (h : free < 256) : (runP free l).free < 256 ∧ (∀ p ∈ (runP free l).puts, 0 ≤ p.2 ∧ p.2 < 8) ∧ (runP free l).puts.length ≤ l.length ∧ (runP free l).waits.length ≤ l.length ∧ (runP free l).moved ≤ l.length := by
  suffices H : ∀ (l : List Wi) (st : Run), st.free < 256 → (∀ p ∈ st.puts, 0 ≤ p.2 ∧ p.2 < 8) → ((l.foldl stepP st).free < 256 ∧ (∀ p ∈ (l.foldl stepP st).puts, 0 ≤ p.2 ∧ p.2 < 8) ∧ (l.foldl stepP st).puts.length ≤ st.puts.length + l.length ∧ (l.foldl stepP st).waits.length ≤ st.waits.length + l.length ∧ (l.foldl stepP st).moved ≤ st.moved + l.length) by
    have := H l ⟨free, [], [], 0⟩ h (by simp)
    simpa [runP] using this
  intro l
  induction l with
  | nil => intro st h1 h2; exact ⟨h1, h2, by simp, by simp, by simp⟩
  | cons w l ih =>
    intro st h1 h2
    have hs : (stepP st w).free < 256 ∧ (∀ p ∈ (stepP st w).puts, 0 ≤ p.2 ∧ p.2 < 8) ∧ (stepP st w).puts.length ≤ st.puts.length + 1 ∧ (stepP st w).waits.length ≤ st.waits.length + 1 ∧ (stepP st w).moved ≤ st.moved + 1 := by
      unfold stepP
      cases ht : takesW w st.free with
      | none => simp only; exact ⟨h1, h2, by omega, by simp, by omega⟩
      | some c =>
        simp only
        refine ⟨Nat.lt_of_le_of_lt (dif_le _ _) h1, fun p hp => ?_, by simp, by omega, by split <;> omega⟩
        rcases List.mem_append.1 hp with hp | hp
        · exact h2 p hp
        · obtain rfl := List.mem_singleton.1 hp
          exact takes_bd ht
    obtain ⟨i1, i2, i3, i4, i5⟩ := ih _ hs.1 hs.2.1
    simp only [List.foldl_cons, List.length_cons]
    exact ⟨i1, i2, by omega, by omega, by omega⟩
/-- What is free, from those placed. -/
theorem runP_free (free : Nat) (l : List Wi) : (runP free l).free = (runP free l).puts.foldl (fun s p => dif s (2 ^ p.2.toNat)) free := by
  suffices H : ∀ (l : List Wi) (st : Run), st.free = st.puts.foldl (fun s p => dif s (2 ^ p.2.toNat)) free → (l.foldl stepP st).free = (l.foldl stepP st).puts.foldl (fun s p => dif s (2 ^ p.2.toNat)) free from H l _ rfl
  intro l
  induction l with
  | nil => intro st h; exact h
  | cons w l ih =>
    intro st h
    refine ih _ ?_
    unfold stepP
    cases takesW w st.free with
    | none => exact h
    | some c => simp only [List.foldl_append, List.foldl_cons, List.foldl_nil, h]

theorem asked_ok (l : List Wi) (free : Nat) (hl : ∀ w ∈ l, inW w) (hn : l.length < 2 ^ 40) (hf : free < 4294967296) : Con Tryd.prog gl0 (fnv 57) [Ws l, S free] 0 [] (Ret (I (askE l free))) := by
  refine Con.of Tryd.ok57 (nt := 13) (res := [.tmp 4]) Tryd.mixed Tryd.func57 rfl rfl rfl rfl fun κ xc hκ => hκ.run 300 ?_
  simp (disch := omega) only [push_cast, simprocAttr]
  refine Does.ret hκ.hP hκ.hgl (pcheck_ok l hl hn) ⟨trivial, by first | (simp [SV.bnd, SV.bndL]; done) | (simp [SV.bnd, SV.bndL, ec_bnd]; done), by first | (simp [SV.bnd, SV.bndL]; done) | (simp [SV.bnd, SV.bndL, ec_bnd]; done) | assumption⟩ ?_
  cases hk : okWs [] l
  · simp only [Bool.false_eq_true, if_false]
    refine hκ.run 300 ?_
    simp (disch := omega) only [push_cast, simprocAttr]
    refine hκ.ret _ _ _ _ _ _ trivial rfl ?_
    simp only [askE, hk, Bool.false_eq_true, if_false]
    exact .ret trivial
  · simp only [if_true]
    refine hκ.run 300 ?_
    simp (disch := omega) only [push_cast, simprocAttr]
    refine Does.ret hκ.hP hκ.hgl (check_ok free hf) ⟨trivial, by first | (simp [SV.bnd, SV.bndL]; done) | (simp [SV.bnd, SV.bndL, ec_bnd]; done), by first | (simp [SV.bnd, SV.bndL]; done) | (simp [SV.bnd, SV.bndL, ec_bnd]; done) | assumption⟩ ?_
    refine hκ.run 300 ?_
    simp (disch := omega) only [push_cast, simprocAttr]
    refine hκ.ret _ _ _ _ _ _ trivial rfl ?_
    simp only [askE, hk, if_true]
    exact .ret trivial
theorem place_ok (l : List Wi) (free : Nat) (hl : ∀ w ∈ l, inW w) (hn : l.length < 2 ^ 40) (hf : free < 4294967296) : Con Tryd.prog gl0 (fnv 30) [Ws l, S free] 0 [] (Ret (placeV l free)) := by
  refine Con.of Tryd.ok30 (nt := 47) (res := [.tmp 4, .tmp 5, .tmp 6]) Tryd.mixed Tryd.func30 rfl rfl rfl rfl fun κ xc hκ => hκ.run 300 ?_
  simp (disch := omega) only [push_cast, simprocAttr]
  refine Does.ret hκ.hP hκ.hgl (asked_ok l free hl hn hf) ⟨trivial, by first | (simp [SV.bnd, SV.bndL]; done) | (simp [SV.bnd, SV.bndL, ec_bnd]; done), by first | (simp [SV.bnd, SV.bndL]; done) | (simp [SV.bnd, SV.bndL, ec_bnd]; done) | assumption⟩ ?_
  refine hκ.run 300 ?_
  simp (disch := omega) only [push_cast, simprocAttr]
  refine OutOK_fork (fun h => ?_) (fun h => ?_) <;> try simp only [Bool.not_true, Bool.not_false, decide_eq_true_eq, decide_eq_false_iff_not, Bool.not_eq_true', Bool.not_eq_false', Bool.and_eq_true, Bool.or_eq_false_iff, Bool.or_eq_true, Bool.and_eq_false_iff] at h
  · simp (disch := omega) only [push_cast, simprocAttr]
    refine hκ.ret _ _ _ _ _ _ trivial rfl ?_
    rw [placeV, if_neg h]
    exact .ret (by simp [SV.bnd, SV.bndL])
  simp (disch := omega) only [push_cast, simprocAttr]
  have h0 := h
  have hfree : free < 256 := by
    unfold askE at h
    split at h
    · split at h
      · assumption
      · omega
    · omega
  have hbd := fun k => runP_bd free (l.take k) hfree
  refine Does.inl hκ.hP hκ.hgl Tryd.ok58 (nt := 6) (res := [.tmp 4]) Tryd.mixed Tryd.func58 rfl rfl rfl rfl fun κ_h1 x_h1 h1 => h1.run 300 ?_
  simp (disch := omega) only [push_cast, simprocAttr]
  refine h1.ret _ _ _ _ _ _ trivial rfl ?_
  refine hκ.run 300 ?_
  simp (disch := omega) only [push_cast, simprocAttr]
  refine hκ.rangeL rfl fun L l1 l2 l3 l4 l5 l6 => ?_
  refine Does.inlc rfl hκ.hgl Tryd.ok79 (nt := 35) (res := []) Tryd.mixed Tryd.func79 rfl rfl rfl rfl fun κ_h4 x_h4 h4 => h4.run 300 ?_
  simp (disch := omega) only [push_cast, simprocAttr]
  refine Sat.nilCell 0 2 68 30 [] [] rfl ?_
  simp only [Heap.set, List.nil_append, Nat.reduceEqDiff, ↓reduceIte]
  refine Sat.less (Sat.loop (γ := Nat × Nat) (fun g => ([(10, I g.1), (9, I l.length), (8, Ws l), (0, .yl 4), (1, .ptr 1 0 0 0), (2, .ptr 2 0 0 0)],
    [(4, L.blk .ready none), (3, .obj (.deferred (some []))), (2, .own [S (runP free (l.take g.1)).free] 25), (1, .own [Ws l] 23), (0, .own [.sl 5 2 0 (runP free (l.take g.1)).puts.length g.2] 30), (5, .row 2 g.2 68 ((runP free (l.take g.1)).puts.map eP))], 6)) (fun g => l.length - g.1)
    (fun g => g.1 ≤ l.length) ?round (0, 0) (Nat.zero_le _)) (by repeat' (first | exact EnvSub.nil _ | exact HeapSub.nil _ | refine EnvSub.cons rfl ?_ | refine HeapSub.cons rfl ?_ | (refine EnvSub.cons (by simp [Env.get]; done) ?_) | (refine HeapSub.cons (by simp [Heap.get]; done) ?_))) (by repeat' (first | exact EnvSub.nil _ | exact HeapSub.nil _ | refine EnvSub.cons rfl ?_ | refine HeapSub.cons rfl ?_ | (refine EnvSub.cons (by simp [Env.get]; done) ?_) | (refine HeapSub.cons (by simp [Heap.get]; done) ?_)))
  case round =>
    rintro ⟨k, cap⟩ hk ih
    dsimp only at hk ih ⊢
    refine h4.run 300 ?_
    simp (disch := omega) only [push_cast, simprocAttr, eW]
    refine OutOK_fork (fun h => ?_) (fun h => ?_) <;> try simp only [Bool.not_true, Bool.not_false, decide_eq_true_eq, decide_eq_false_iff_not, Bool.not_eq_true', Bool.not_eq_false', Bool.and_eq_true, Bool.or_eq_false_iff, Bool.or_eq_true, Bool.and_eq_false_iff] at h
    · simp (disch := omega) only [push_cast, simprocAttr, eW]
      (repeat (refine ⟨by first | omega | (refine ⟨?_, ?_⟩ <;> omega) | trivial | (simp; done) | decide +kernel, fun _ => ?_⟩))
      have hm : l.getD k default ∈ l := by
        rw [List.getD, List.getElem?_eq_getElem (by omega)]; exact List.getElem_mem _
      have hs := runP_take (free := free) (l := l) (k := k) (by omega)
      obtain ⟨f1, f2, f3, -, -⟩ := hbd k
      have f4 : (l.take k).length ≤ l.length := by simp; omega
      obtain ⟨⟨v1, v2⟩, ⟨a1, a2⟩, m1⟩ := hl _ hm
      have hz := fun cap => ih (k + 1, cap) (by dsimp only; omega) (by dsimp only; omega)
      dsimp only at hz
      rw [hs] at hz
      generalize l.getD k default = w at hs v1 v2 a1 a2 m1 hz ⊢
      generalize runP free (l.take k) = st at hs f1 f2 f3 hz ⊢
      obtain ⟨fr, ps, ws, mv⟩ := st
      dsimp only at f1 f2 f3 hz ⊢
      refine Does.ret h4.hP h4.hgl (best_ok w.m fr w.a m1 (by omega) ⟨a1, a2⟩) ⟨trivial, by first | (simp [SV.bnd, SV.bndL]; done) | (simp [SV.bnd, SV.bndL, ec_bnd]; done), by first | (simp [SV.bnd, SV.bndL]; done) | (simp [SV.bnd, SV.bndL, ec_bnd]; done) | assumption⟩ ?_
      cases ht : bestB w.m fr w.a with
      | none =>
        simp only [stepP, takesW, ht] at hz
        refine h4.run 300 ?_
        simp (disch := omega) only [push_cast, simprocAttr]
        refine Does.roundL h4.hP h4.hgl Tryd.mixed (L := L) rfl l1 l2 l3 l4 l5 rfl rfl fun κ_h5 x_h5 h5 => ?_
        simp only [bindP]
        refine h5.run 300 ?_
        simp (disch := omega) only [push_cast, simprocAttr]
        refine h5.beg rfl ?_
        simp only [Heap.set, Nat.reduceEqDiff, ↓reduceIte]
        refine h5.run 300 ?_
        simp (disch := omega) only [push_cast, simprocAttr]
        refine h5.fin rfl ?_
        simp only [Heap.set, Nat.reduceEqDiff, ↓reduceIte]
        refine h4.run 300 ?_
        simp (disch := omega) only [push_cast, simprocAttr]
        refine Sat.via (fun i => i) (hz cap) (by intro i j; (repeat (first | omega | split))) (by repeat' (first | exact EnvVia.nil | refine EnvVia.cons (by first | trivial | decide | (simp [SV.bnd, SV.bndL]; done)) rfl ?_)) (by repeat' (first | exact HeapVia.nil | refine HeapVia.cons (by decide) (by first | trivial | exact Blk.bnd_own0 (by assumption) | (simp [Blk.bnd, SV.bnd, SV.bndL]; done) | exact bndL_mapV _ _ _ | exact LR.bnd (by rw [l2]; simp [bndE, SV.bnd, SV.bndL]) (by rw [l6]; decide)) (by first | (rw [Blk.ren_own0 (by assumption)]; rfl) | rfl | (simp only [Blk.ren, renL_mapV]; rfl) | (rw [LR.ren (by rw [l2] <;> rfl) (by rw [l6] <;> rfl)]; rfl)) ?_)) ⟨by have := h4.hm; (try dsimp only at this); (first | done | omega), fun i hi => by have := h4.hm; (try dsimp only at this); (first | omega | (dsimp only; omega) | (rw [if_neg (by omega)]))⟩ ⟨by simp, rfl⟩
      | some c =>
        simp only [stepP, takesW, ht] at hz
        obtain ⟨c1, c2⟩ := takes_bd (w := w) ht
        have hp := pow_lt_256 (c := c.toNat) (by omega)
        refine h4.run 300 ?_
        simp (disch := omega) only [push_cast, simprocAttr]
        refine h4.draw (.q 0 (.q 1 (.q 2 (.q 3 (.l 4 [] (.fin)))))) [0, 1, 2, 3] (by kernel_rfl) (by kernel_rfl) rfl ?_
        simp (disch := omega) only [push_cast, simprocAttr]
        rw [pow32 _ (by omega), andNot32 (by omega) (by omega)]
        refine ⟨by omega, fun _ => ?_⟩
        refine h4.run 300 ?_
        simp (disch := omega) only [push_cast, simprocAttr]
        refine Does.roundL h4.hP h4.hgl Tryd.mixed (L := L) rfl l1 l2 l3 l4 l5 rfl rfl fun κ_h5 x_h5 h5 => ?_
        simp only [bindP]
        refine h5.run 300 ?_
        simp (disch := omega) only [push_cast, simprocAttr]
        refine h5.beg rfl ?_
        simp only [Heap.set, Nat.reduceEqDiff, ↓reduceIte]
        refine h5.run 300 ?_
        simp (disch := omega) only [push_cast, simprocAttr]
        refine OutOK_fork (fun _ => ?_) (fun h => (by first | (have h := of_decide_eq_false h; omega) | (simp only [Bool.not_true, Bool.not_false, decide_eq_true_eq, decide_eq_false_iff_not, Bool.not_eq_true', Bool.not_eq_false', Bool.and_eq_true, Bool.or_eq_false_iff, Bool.or_eq_true, Bool.and_eq_false_iff] at h; omega)))
        simp (disch := omega) only [push_cast, simprocAttr]
        (repeat (refine ⟨by first | omega | (refine ⟨?_, ?_⟩ <;> omega) | trivial | (simp; done) | decide +kernel, fun _ => ?_⟩))
        intro cap2
        refine h5.fin rfl ?_
        simp only [Heap.set, Nat.reduceEqDiff, ↓reduceIte]
        refine h4.run 300 ?_
        simp (disch := omega) only [push_cast, simprocAttr]
        have et : List.take ps.length (List.map eP ps) = List.map eP ps := List.take_of_length_le (by simp)
        have hy := hz (ps.length + 1 + cap2)
        simp only [List.length_append, List.length_cons, List.length_nil, List.length_singleton, List.length_map, List.length_set, List.length_replicate, Nat.zero_add, Nat.add_zero, Int.natCast_add, Int.natCast_one, Int.ofNat_eq_natCast, List.map_append, List.map_cons, List.map_nil, List.take_length, eI, eB] at hy ⊢
        rw [et]
        refine Sat.via (fun i => if i = 5 then 9 else i) (hy) (by intro i j; (repeat (first | omega | split))) (by repeat' (first | exact EnvVia.nil | refine EnvVia.cons (by first | trivial | decide | (simp [SV.bnd, SV.bndL]; done)) rfl ?_)) (by repeat' (first | exact HeapVia.nil | refine HeapVia.cons (by decide) (by first | trivial | exact Blk.bnd_own0 (by assumption) | (simp [Blk.bnd, SV.bnd, SV.bndL]; done) | exact bndL_mapV _ _ _ | exact LR.bnd (by rw [l2]; simp [bndE, SV.bnd, SV.bndL]) (by rw [l6]; decide)) (by first | (rw [Blk.ren_own0 (by assumption)]; rfl) | rfl | (simp only [Blk.ren, renL_mapV]; rfl) | (rw [LR.ren (by rw [l2] <;> rfl) (by rw [l6] <;> rfl)]; rfl)) ?_)) ⟨by have := h4.hm; (try dsimp only at this); (first | done | omega), fun i hi => by have := h4.hm; (try dsimp only at this); (first | omega | (dsimp only; omega) | (rw [if_neg (by omega)]))⟩ ⟨by simp, rfl⟩
    · simp (disch := omega) only [push_cast, simprocAttr]
      obtain rfl : k = l.length := by omega
      rw [List.take_length]
      have hb2 := runP_bd free l hfree
      have hfr := runP_free free l
      refine h4.fin _ _ _ _ _ trivial rfl ?_
      refine ⟨_, _, rfl, by decide, ?_⟩
      simp only [Option.map_none, Option.map_some, Option.toList, List.nil_append, List.cons_append, Heap.drop, Nat.reduceEqDiff, ↓reduceIte]
      refine hκ.run 300 ?_
      simp (disch := omega) only [push_cast, simprocAttr]
      generalize hr : runP free l = st at hb2 hfr ⊢
      obtain ⟨fr, ps, ws, mv⟩ := st
      dsimp only at hb2 hfr ⊢
      refine Sat.room 5 rfl fun hroom => ?_
      rw [List.length_map] at hroom
      refine Sat.less (Sat.loop (γ := Nat) (fun g => ([(35, I g), (34, I ps.length), (33, .sl 5 2 0 ps.length cap), (8, .ptr 0 0 0 0), (1, S ((ps.take g).foldl (fun s p => dif s (2 ^ p.2.toNat)) free))],
        [(3, .obj (.deferred (some []))), (0, .own [.sl 5 2 0 ps.length cap] 30), (5, .row 2 cap 68 (ps.map eP))], 6)) (fun g => ps.length - g)
        (fun g => g ≤ ps.length ∧ (ps.take g).foldl (fun s p => dif s (2 ^ p.2.toNat)) free < 256) ?round2 0 ⟨Nat.zero_le _, hfree⟩) (by repeat' (first | exact EnvSub.nil _ | exact HeapSub.nil _ | refine EnvSub.cons rfl ?_ | refine HeapSub.cons rfl ?_ | (refine EnvSub.cons (by simp [Env.get]; done) ?_) | (refine HeapSub.cons (by simp [Heap.get]; done) ?_))) (by repeat' (first | exact EnvSub.nil _ | exact HeapSub.nil _ | refine EnvSub.cons rfl ?_ | refine HeapSub.cons rfl ?_ | (refine EnvSub.cons (by simp [Env.get]; done) ?_) | (refine HeapSub.cons (by simp [Heap.get]; done) ?_)))
      case round2 =>
        rintro k ⟨hk, hlt⟩ ih
        dsimp only at ih ⊢
        refine hκ.run 300 ?_
        simp (disch := omega) only [push_cast, simprocAttr, eP]
        refine OutOK_fork (fun h => ?_) (fun h => ?_) <;> try simp only [Bool.not_true, Bool.not_false, decide_eq_true_eq, decide_eq_false_iff_not, Bool.not_eq_true', Bool.not_eq_false', Bool.and_eq_true, Bool.or_eq_false_iff, Bool.or_eq_true, Bool.and_eq_false_iff] at h
        · have hm : ps.getD k default ∈ ps := by
            rw [List.getD, List.getElem?_eq_getElem (by omega)]; exact List.getElem_mem _
          have ht : ps.take (k + 1) = ps.take k ++ [ps.getD k default] := by
            rw [List.take_succ_eq_append_getElem (by omega), List.getD, List.getElem?_eq_getElem (by omega)]; rfl
          obtain ⟨p1, p2⟩ := hb2.2.1 _ hm
          simp (disch := omega) only [push_cast, simprocAttr, eP]
          (repeat (refine ⟨by first | omega | (refine ⟨?_, ?_⟩ <;> omega) | trivial | (simp; done) | decide +kernel, fun _ => ?_⟩))
          have hz := ih (k + 1)
          rw [ht, List.foldl_append, List.foldl_cons, List.foldl_nil] at hz
          generalize ps.getD k default = p at p1 p2 hz ⊢
          generalize (ps.take k).foldl (fun s p => dif s (2 ^ p.2.toNat)) free = fr at hlt hz ⊢
          have hp := pow_lt_256 (c := p.2.toNat) (by omega)
          rw [pow32 _ (by omega), andNot32 (by omega) (by omega)]
          have hz := hz ⟨by omega, Nat.lt_of_le_of_lt (dif_le _ _) hlt⟩ (by omega)
          refine Sat.via (fun i => i) (hz) (by intro i j; (repeat (first | omega | split))) (by repeat' (first | exact EnvVia.nil | refine EnvVia.cons (by first | trivial | decide | (simp [SV.bnd, SV.bndL]; done)) rfl ?_)) (by repeat' (first | exact HeapVia.nil | refine HeapVia.cons (by decide) (by first | trivial | exact Blk.bnd_own0 (by assumption) | (simp [Blk.bnd, SV.bnd, SV.bndL]; done) | exact bndL_mapV _ _ _ | exact LR.bnd (by rw [l2]; simp [bndE, SV.bnd, SV.bndL]) (by rw [l6]; decide)) (by first | (rw [Blk.ren_own0 (by assumption)]; rfl) | rfl | (simp only [Blk.ren, renL_mapV]; rfl) | (rw [LR.ren (by rw [l2] <;> rfl) (by rw [l6] <;> rfl)]; rfl)) ?_)) ⟨by have := hκ.hm; (try dsimp only at this); (first | done | omega), fun i hi => by have := hκ.hm; (try dsimp only at this); (first | omega | (dsimp only; omega) | (rw [if_neg (by omega)]))⟩ ⟨by simp, rfl⟩
        · simp (disch := omega) only [push_cast, simprocAttr]
          obtain rfl : k = ps.length := by omega
          have et : List.take ps.length (List.map eP ps) = List.map eP ps := List.take_of_length_le (by simp)
          rw [List.take_length, ← hfr]
          refine hκ.ret _ _ _ _ _ _ ⟨rfl, trivial⟩ rfl ?_
          have e : placeV l free = .tup [Ps ps, S fr, I 0] := by rw [placeV, if_pos h0, hr]
          rw [e]
          refine Post.frz [5] (by simp [lendPL, lendP, lendSlP, dropL, Heap.get, Heap.drop, resV]; omega) ?_
          simp only [resV, lendL, lendS, lendSl, dropL, Heap.drop, Heap.get, List.mem_singleton, List.drop_zero, Nat.reduceEqDiff, ↓reduceIte, et]
          exact .ret (by simp [SV.bnd, SV.bndL])
end Go.Proofs.YtnjgmjcokcfmkaaDoor

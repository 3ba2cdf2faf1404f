/- Walks of mask: asked, most, Most, Fits, Choice. No condition. -/
import Derived.Test.YtgmedcnpgpehfaaDoorMk
namespace Go.Proofs.YtgmedcnpgpehfaaDoor
open Go Go.Sy
set_option maxRecDepth 100000
set_option linter.unusedSimpArgs false
set_option linter.unusedVariables false

abbrev Ms (l : List Msk) : SV := .rd 2 (l.map eK)
/-- How many have a choice at most. -/
def mostN : List Msk → Nat → Nat
  | [], _ => 0
  | m :: l, s => if s = 0 then 0 else (bits (alw m s)).foldl (fun n c => max n (1 + mostN l (dif s (2 ^ c.toNat)))) (mostN l s)
def askM (l : List Msk) (s : Nat) : Int := if l.all okM = true then (if s < 256 then (if 16 < l.length then 3 else 0) else 140) else 170
theorem mostN_le : ∀ (l : List Msk) (s : Nat), mostN l s ≤ l.length
  | [], _ => Nat.le_refl _
  | m :: l, s => by
    rw [mostN]
    split
    · omega
    · have h0 := mostN_le l s
      have : ∀ (cs : List Int) (n : Nat), n ≤ l.length + 1 → cs.foldl (fun n c => max n (1 + mostN l (dif s (2 ^ c.toNat)))) n ≤ l.length + 1 := by
        intro cs
        induction cs with
        | nil => intro n h; exact h
        | cons c cs ih =>
          intro n h
          have := mostN_le l (dif s (2 ^ c.toNat))
          exact ih _ (by show max n (1 + mostN l (dif s (2 ^ c.toNat))) ≤ _; omega)
      exact this _ _ (by omega)
theorem mostN_zero (l : List Msk) : mostN l 0 = 0 := by cases l <;> simp [mostN]

theorem masked_ok (l : List Msk) (s : Nat) (hl : ∀ m ∈ l, u32M m) (hn : l.length < 2 ^ 62) (hs : s < 4294967296) : Con Tryd.prog gl0 (fnv 28) [Ms l, S s] 0 [] (Ret (I (askM l s))) := by
  refine Con.of Tryd.ok28 (nt := 17) (res := [.tmp 4]) Tryd.mixed Tryd.func28 rfl rfl rfl rfl fun κ xc hκ => hκ.run 300 ?_
  simp (disch := omega) only [exec_succ, runR_next, runR_call, stepS, runOp, toSR, sop, rOf, ev, evs, Env.get, envOf, OutOK_call, eq_self, List.size_toArray, List.length_cons, List.length_nil, List.range, List.range.loop, List.getElem?_toArray, List.getElem?_cons_succ, List.getElem?_cons_zero, ↓reduceIte, Nat.reduceAdd, Nat.reduceLT, Nat.zero_add, Nat.add_one_ne_zero, gl0]
  refine Does.ret hκ.hP hκ.hgl (mright_ok l hl hn) ⟨trivial, by simp [SV.bnd, SV.bndL], by first | (simp [SV.bnd]; done) | assumption⟩ ?_
  cases hk : l.all okM
  · refine hκ.run 300 ?_
    simp (disch := omega) only [exec_succ, runR_next, runR_fork_true, runR_stop, stepS, runOp, condS, toSR, sop, rOf, sUn, ev, Env.get, setO, OutOK_stop, eq_self, List.size_toArray, List.length_cons, List.length_nil, List.range, List.range.loop, List.getElem?_toArray, List.getElem?_cons_succ, List.getElem?_cons_zero, ↓reduceIte, Nat.reduceLT, Nat.zero_add, Bool.not_false, gl0]
    refine hκ.ret _ _ _ _ _ _ trivial rfl ?_
    simp only [askM, hk, Bool.false_eq_true, if_false]
    exact .ret trivial
  · refine hκ.run 300 ?_
    simp (disch := omega) only [exec_succ, runR_next, runR_fork_false, runR_call, stepS, runOp, condS, toSR, sop, rOf, sUn, ev, evs, Env.get, setO, OutOK_call, eq_self, List.size_toArray, List.length_cons, List.length_nil, List.range, List.range.loop, List.getElem?_toArray, List.getElem?_cons_succ, List.getElem?_cons_zero, ↓reduceIte, Nat.reduceAdd, Nat.reduceLT, Nat.reduceEqDiff, Nat.zero_add, Bool.not_true, reduceCtorEq, gl0]
    refine Does.ret hκ.hP hκ.hgl (check_ok s hs) ⟨trivial, by simp [SV.bnd, SV.bndL], by first | (simp [SV.bnd]; done) | assumption⟩ ?_
    by_cases hs2 : s < 256
    · rw [if_pos hs2]
      refine hκ.run 300 ?_
      simp (disch := omega) only [sBuiltin, exec_succ, runR_next, runR_fork_false, stepS, runOp, condS, toSR, sop, rOf, sInt, sBin, sLen, ev, Env.get, setO, eq_self, List.size_toArray, List.length_cons, List.length_nil, List.length_map, List.range, List.range.loop, List.getElem?_toArray, List.getElem?_cons_succ, List.getElem?_cons_zero, ↓reduceIte, Nat.reduceAdd, Nat.reduceLT, Nat.zero_add, Nat.add_one_ne_zero, Bool.not_true, decide_true, gl0, Tryd.underlying22]
      refine OutOK_fork (fun h => ?_) (fun h => ?_) <;> try simp only [decide_eq_true_eq, decide_eq_false_iff_not] at h
      · simp (disch := omega) only [exec_succ, runR_next, runR_stop, stepS, runOp, toSR, sop, rOf, ev, OutOK_stop, List.size_toArray, List.length_cons, List.length_nil, List.range, List.range.loop, List.getElem?_toArray, List.getElem?_cons_zero, ↓reduceIte, Nat.reduceLT, Nat.zero_add]
        refine hκ.ret _ _ _ _ _ _ trivial rfl ?_
        simp only [askM, hk, if_true, hs2, show 16 < l.length by omega]
        exact .ret trivial
      · simp (disch := omega) only [exec_succ, runR_next, runR_stop, stepS, runOp, toSR, sop, rOf, ev, OutOK_stop, List.size_toArray, List.length_cons, List.length_nil, List.range, List.range.loop, List.getElem?_toArray, List.getElem?_cons_zero, ↓reduceIte, Nat.reduceLT, Nat.zero_add]
        refine hκ.ret _ _ _ _ _ _ trivial rfl ?_
        simp only [askM, hk, if_true, hs2, show ¬ 16 < l.length by omega, if_false]
        exact .ret trivial
    · rw [if_neg hs2]
      refine hκ.run 300 ?_
      simp (disch := omega) only [exec_succ, runR_next, runR_fork_true, runR_stop, stepS, runOp, condS, toSR, sop, rOf, sInt, sBin, ev, Env.get, setO, OutOK_stop, eq_self, List.size_toArray, List.length_cons, List.length_nil, List.range, List.range.loop, List.getElem?_toArray, List.getElem?_cons_succ, List.getElem?_cons_zero, ↓reduceIte, Nat.reduceLT, Nat.zero_add, Int.reduceEq, Bool.not_false, decide_false, gl0]
      refine hκ.ret _ _ _ _ _ _ trivial rfl ?_
      simp only [askM, hk, if_true, hs2, if_false]
      exact .ret trivial
/-- What has been found. -/
def goodF (l : List Msk) (f : List Int → Option SV) : Prop := ∀ ns v, f ns = some v → ∃ (i : Nat) (s : Nat), ns = [(i : Int), (s : Int)] ∧ i < l.length ∧ v = I (mostN (l.drop i) s)
abbrev cntH (l : List Msk) (f : List Int → Option SV) : Heap := [(0, .own [Ms l] 22), (1, .own [.mp 3] 59), (2, .own [.fn (.func 39) [] [.ptr 0 0 0 0, .ptr 1 0 0 0, .ptr 2 0 0 0]] 60), (3, .map true [.i64, .u32] f)]
theorem goodF_add {l : List Msk} {f : List Int → Option SV} {i s : Nat} (h : goodF l f) (hi : i < l.length) : goodF l (fun q => if q = [(i : Int), (s : Int)] then some (I (mostN (l.drop i) s)) else f q) := by
  intro ns v hv
  dsimp only at hv
  split at hv
  · rename_i e
    simp only [Option.some.injEq] at hv
    exact ⟨i, s, e, hi, hv.symm⟩
  · exact h ns v hv
theorem cnt_hand {l : List Msk} {f : List Int → Option SV} {H : Heap} {σ : Nat → Nat} (h0 : H.get (σ 0) = some ((Blk.own [Ms l] 22).ren σ)) (h1 : H.get (σ 1) = some ((Blk.own [.mp 3] 59).ren σ)) (h2 : H.get (σ 2) = some ((Blk.own [.fn (.func 39) [] [.ptr 0 0 0 0, .ptr 1 0 0 0, .ptr 2 0 0 0]] 60).ren σ)) (h3 : H.get (σ 3) = some ((Blk.map true [.i64, .u32] f).ren σ)) (hl : σ 0 ∈ [0, 1, 2, 3] := by decide) (hl1 : σ 1 ∈ [0, 1, 2, 3] := by decide) (hl2 : σ 2 ∈ [0, 1, 2, 3] := by decide) (hl3 : σ 3 ∈ [0, 1, 2, 3] := by decide) :
    ∀ i b, (cntH l f).get i = some b → i < 4 ∧ b.bnd 4 ∧ σ i ∈ [0, 1, 2, 3] ∧ H.get (σ i) = some (b.ren σ) := by
  intro j b hb
  have hj : j = 0 ∨ j = 1 ∨ j = 2 ∨ j = 3 := by
    by_cases e0 : j = 0
    · exact .inl e0
    by_cases e1 : j = 1
    · exact .inr (.inl e1)
    by_cases e2 : j = 2
    · exact .inr (.inr (.inl e2))
    by_cases e3 : j = 3
    · exact .inr (.inr (.inr e3))
    simp only [Heap.get, if_neg (Ne.symm e0), if_neg (Ne.symm e1), if_neg (Ne.symm e2), if_neg (Ne.symm e3)] at hb
    cases hb
  rcases hj with rfl | rfl | rfl | rfl
  · simp [Heap.get] at hb; subst hb
    exact ⟨by omega, by simp [Blk.bnd, SV.bnd, SV.bndL], hl, h0⟩
  · simp [Heap.get] at hb; subst hb
    exact ⟨by omega, by simp [Blk.bnd, SV.bnd, SV.bndL], hl1, h1⟩
  · simp [Heap.get] at hb; subst hb
    exact ⟨by omega, by simp [Blk.bnd, SV.bnd, SV.bndL], hl2, h2⟩
  · simp [Heap.get] at hb; subst hb
    exact ⟨by omega, by simp [Blk.bnd], hl3, h3⟩
theorem does_count {P0 : Program} {x : Ctx} {nx : Nat} {H : Heap} {K : SV → Heap → Nat → Prop} (hP : P0 = Tryd.prog) (hgl : x.gl = gl0) {l : List Msk} {f : List Int → Option SV} {i s v : Int}
    (h : Con Tryd.prog gl0 (.fn (.func 39) [] [.ptr 0 0 0 0, .ptr 1 0 0 0, .ptr 2 0 0 0]) [I i, .v (.int .u32 s)] 4 (cntH l f) (fun r H n => ∃ f', goodF l f' ∧ r = I v ∧ H = cntH l f' ∧ n = 4))
    (hH : H.get 0 = (cntH l f).get 0 ∧ H.get 1 = (cntH l f).get 1 ∧ H.get 2 = (cntH l f).get 2 ∧ H.get 3 = (cntH l f).get 3) (hnx : 4 ≤ nx) (next : ∀ f', goodF l f' → K (I v) (cntH l f' ++ without [0, 1, 2, 3] H) nx) :
    Does P0 x (.fn (.func 39) [] [.ptr 0 0 0 0, .ptr 1 0 0 0, .ptr 2 0 0 0]) [I i, .v (.int .u32 s)] nx H K := by
  obtain ⟨h0, h1, h2, h3⟩ := hH
  refine Does.fn hP hgl 4 (fun i => i) [0, 1, 2, 3] _ _ (cntH l f) h (by simp [SV.ren, SV.renL]) (by simp [SV.ren, SV.renL]) (by simp [SV.bnd, SV.bndL]) (by simp [SV.bnd, SV.bndL]) (fun i hi => by omega) (fun i j _ _ h => h) ?_ ?_
  · exact cnt_hand (by rw [h0]; rfl) (by rw [h1]; rfl) (by rw [h2]; rfl) (by rw [h3]; rfl)
  · rintro r H' n' ⟨f', hf', rfl, rfl, rfl⟩
    refine ⟨by repeat' (first | exact Once.nil | refine Once.cons (by simp) ?_), fun _ => ?_⟩
    have e : renH (tau 4 nx fun i => i) (cntH l f') = cntH l f' := by simp [cntH, renH, Blk.ren, SV.renL, SV.ren, tau]
    rw [e]
    exact next f' hf'
theorem count_ok1 (l : List Msk) (hl : ∀ m ∈ l, u32M m) (hn : l.length < 2 ^ 40) : ∀ (n i : Nat) (s : Nat) (f : List Int → Option SV), l.length - i = n → i ≤ l.length → s < 256 → goodF l f →
    Con Tryd.prog gl0 (.fn (.func 39) [] [.ptr 0 0 0 0, .ptr 1 0 0 0, .ptr 2 0 0 0]) [I i, S s] 4 (cntH l f) (fun r H n => ∃ f', goodF l f' ∧ r = I (mostN (l.drop i) s) ∧ H = cntH l f' ∧ n = 4) := by
  intro n
  induction n with
  | zero =>
    intro i s f hi hi2 hs hf
    obtain rfl : i = l.length := by omega
    refine Con.clo Tryd.ok39 (nt := 65) (res := [.tmp 7]) Tryd.mixed Tryd.func39 rfl rfl rfl rfl fun κ xc hκ => hκ.run 300 ?_
    simp (disch := omega) only [sBuiltin, exec_succ, runR_next, runR_fork_true, runR_guard_tf, runR_stop, stepS, runOp, guardS, condS, toSR, sop, rOf, sPick, sLoadIn, sLoad, sInt, sEq, sEqR, sBin, sLen, ev, Env.get, Heap.get, takeN, cut, aggOf, envOf, OutOK_stop, undefS, undef, eq_self, List.size_toArray, List.length_cons, List.length_nil, List.length_map, List.range, List.range.loop, List.getElem?_toArray, List.getElem?_cons_succ, List.getElem?_cons_zero, List.cons_append, List.nil_append, Option.bind_some, ↓reduceIte, Nat.reduceAdd, Nat.reduceLT, Nat.reduceEqDiff, Nat.zero_add, Nat.add_one_ne_zero, Bool.not_false, decide_true, and_self, reduceCtorEq, gl0, Tryd.underlying22, Tryd.sz22, Tryd.ag22]
    refine hκ.ret _ _ _ _ _ _ trivial rfl ?_
    exact Post.same ⟨f, hf, by rw [List.drop_length]; rfl, rfl, rfl⟩ (fun _ _ h => h)
  | succ n ih =>
    intro i s f hi hi2 hs hf
    have hm : l.getD i default ∈ l := by
      rw [List.getD, List.getElem?_eq_getElem (by omega)]; exact List.getElem_mem _
    have hd : l.drop i = l.getD i default :: l.drop (i + 1) := by
      rw [List.drop_eq_getElem_cons (by omega), List.getD, List.getElem?_eq_getElem (by omega)]; rfl
    have e1 : ((i : Int) = l.length) = False := by simp only [eq_iff_iff, iff_false]; omega
    refine Con.clo Tryd.ok39 (nt := 65) (res := [.tmp 7]) Tryd.mixed Tryd.func39 rfl rfl rfl rfl fun κ xc hκ => hκ.run 300 ?_
    by_cases h0 : s = 0
    · subst h0
      simp (disch := omega) only [sBuiltin, exec_succ, runR_next, runR_fork_true, runR_guard_ff, runR_stop, stepS, runOp, guardS, condS, toSR, sop, rOf, sPick, sLoadIn, sLoad, sInt, sBin, sLen, ev, Env.get, Heap.get, takeN, cut, aggOf, envOf, OutOK_stop, undefS, undef, eq_self, Int.cast_ofNat_Int, List.size_toArray, List.length_cons, List.length_nil, List.length_map, List.range, List.range.loop, List.getElem?_toArray, List.getElem?_cons_succ, List.getElem?_cons_zero, List.cons_append, List.nil_append, Option.bind_some, ↓reduceIte, Nat.reduceAdd, Nat.reduceLT, Nat.reduceEqDiff, Nat.zero_add, Nat.add_one_ne_zero, Bool.not_false, decide_true, decide_false, and_self, reduceCtorEq, gl0, Tryd.underlying22, Tryd.sz22, Tryd.ag22, e1]
      refine hκ.ret _ _ _ _ _ _ trivial rfl ?_
      exact Post.same ⟨f, hf, by rw [mostN_zero]; rfl, rfl, rfl⟩ (fun _ _ h => h)
    have e2 : ((s : Int) = 0) = False := by simp only [eq_iff_iff, iff_false]; omega
    cases hff : f [(i : Int), (s : Int)] with
    | some v =>
      obtain ⟨i', s', h1, h2, rfl⟩ := hf _ _ hff
      simp only [List.cons.injEq, and_true] at h1
      obtain rfl : i = i' := by omega
      obtain rfl : s = s' := by omega
      simp (disch := omega) only [sBuiltin, sLookup, sLookupIn, keyS, intCells, exec_succ, runR_next, runR_fork_true, runR_fork_false, runR_guard_ff, runR_stop, stepS, runOp, guardS, condS, toSR, sop, rOf, sPick, isArr, sLoadIn, sLoad, sInt, sBin, sExtract, sLen, fillS, evps, sBuild, ev, svs, Env.get, Heap.get, takeN, cut, over, paste, aggOf, cellsS, envOf, Value.cells, OutOK_stop, undefS, undef, eq_self, List.size_toArray, List.length_cons, List.length_nil, List.length_map, List.range, List.range.loop, List.getElem?_toArray, List.getElem?_cons_succ, List.getElem?_cons_zero, List.map_cons, List.map_nil, List.cons_append, List.nil_append, Option.bind_some, Option.getD_some, Option.isSome_some, List.toList_toArray, ↓reduceIte, Nat.reduceAdd, Nat.reduceLT, Nat.reduceEqDiff, Nat.zero_add, Nat.add_one_ne_zero, Bool.not_false, decide_false, and_self, reduceCtorEq, gl0, Tryd.underlying22, Tryd.sz22, Tryd.ag22, Tryd.sz59, Tryd.ag59, Tryd.mp59, Tryd.ze62, Tryd.pl62, e1, e2, hff]
      refine hκ.ret _ _ _ _ _ _ trivial rfl ?_
      exact Post.same ⟨f, hf, rfl, rfl, rfl⟩ (fun _ _ h => h)
    | none =>
      simp (disch := omega) only [sBuiltin, sLookup, sLookupIn, keyS, intCells, exec_succ, runR_next, runR_fork_false, runR_guard_ff, runR_call, stepS, runOp, guardS, condS, toSR, sop, rOf, sPick, isArr, sLoadIn, sLoad, sInt, sBin, sExtract, sLen, fillS, evps, sBuild, ev, evs, svs, Env.get, Heap.get, takeN, cut, over, paste, aggOf, cellsS, envOf, Value.cells, OutOK_call, undefS, undef, eq_self, List.size_toArray, List.length_cons, List.length_nil, List.length_map, List.range, List.range.loop, List.getElem?_toArray, List.getElem?_cons_succ, List.getElem?_cons_zero, List.map_cons, List.map_nil, List.cons_append, List.nil_append, Option.bind_some, Option.getD_none, Option.isSome_none, List.toList_toArray, ↓reduceIte, Nat.reduceAdd, Nat.reduceLT, Nat.reduceEqDiff, Nat.zero_add, Nat.add_one_ne_zero, Bool.not_false, decide_false, and_self, reduceCtorEq, wrap_i64, gl0, Tryd.underlying22, Tryd.sz22, Tryd.ag22, Tryd.sz59, Tryd.ag59, Tryd.mp59, Tryd.sz60, Tryd.ag60, Tryd.ze62, Tryd.pl62, e1, e2, hff]
      have step := fun s hs f hf => ih (i + 1) s f (by omega) (by omega) hs hf
      refine does_count hκ.hP hκ.hgl (step s hs f hf) ⟨rfl, rfl, rfl, rfl⟩ (Nat.le_refl _) fun f1 hf1 => ?_
      have halw := alw_lt (l.getD i default) s
      have hle1 := mostN_le (l.drop (i + 1)) s
      have hdl : (l.drop (i + 1)).length ≤ l.length := by simp
      refine hκ.run 300 ?_
      simp (disch := omega) only [exec_succ, runR_next, runR_need, runR_call, stepS, runOp, toSR, sop, rOf, sLoadIn, sLoad, sIndexAddr, elemT, obind, ev, evs, Env.get, Heap.get, takeN, cut, aggOf, setO, OutOK_need, OutOK_call, without, eq_self, List.size_toArray, List.length_cons, List.length_nil, List.length_map, List.range, List.range.loop, List.getElem?_toArray, List.getElem?_cons_succ, List.getElem?_cons_zero, List.cons_append, List.nil_append, ↓reduceIte, Nat.reduceAdd, Nat.reduceLT, Nat.reduceEqDiff, Nat.zero_add, Nat.add_one_ne_zero, Int.toNat_natCast, reduceCtorEq, getD_map, gl0, Tryd.underlying22, Tryd.sz22, Tryd.ag22, Tryd.sz31, Tryd.ag31, eK, cntH]
      (repeat (refine ⟨by first | omega | (refine ⟨?_, ?_⟩ <;> omega) | trivial | (simp; done) | decide +kernel, fun _ => ?_⟩))
      generalize hw : l.getD i default = w at hd halw ⊢
      have hm1 : u32M w := by rw [← hw]; exact hl _ hm
      refine Does.ret hκ.hP hκ.hgl (allows_ok w s hm1 (by omega)) ⟨trivial, by simp [SV.bnd, SV.bndL], by first | (simp [SV.bnd]; done) | assumption⟩ ?_
      refine hκ.run 300 ?_
      simp (disch := omega) only [exec_succ, runR_call, stepS, runOp, ev, evs, Env.get, setO, OutOK_call, eq_self, List.getElem?_toArray, List.getElem?_cons_succ, List.getElem?_cons_zero, ↓reduceIte, Nat.reduceLT, gl0]
      refine Does.ret hκ.hP hκ.hgl ((list_ok (alw w s) (by omega)).toRd) ⟨trivial, by simp [SV.bnd, SV.bndL], by first | (simp [SV.bnd]; done) | assumption⟩ ?_
      refine hκ.run 300 ?_
      simp (disch := omega) only [sBuiltin, exec_succ, runR_next, runR_stop, stepS, runOp, toSR, sop, rOf, sLen, ev, Env.get, setO, OutOK_stop, eq_self, List.length_map, List.getElem?_toArray, List.getElem?_cons_succ, List.getElem?_cons_zero, ↓reduceIte, Nat.reduceLT, gl0, Tryd.underlying26]
      have hbl := bits_len (alw w s)
      refine Sat.less (Sat.loop (γ := Nat × (List Int → Option SV)) (fun g => ([(43, I g.1), (42, I (bits (alw w s)).length), (41, .rd 1 ((bits (alw w s)).map (eI .i64))), (8, I (((bits (alw w s)).take g.1).foldl (fun n c => max n (1 + mostN (l.drop (i + 1)) (dif s (2 ^ c.toNat)))) (mostN (l.drop (i + 1)) s) : Nat)), (0, I i), (1, S s), (2, .ptr 0 0 0 0), (3, .ptr 1 0 0 0), (4, .ptr 2 0 0 0)], cntH l g.2, 4)) (fun g => (bits (alw w s)).length - g.1)
        (fun g => g.1 ≤ (bits (alw w s)).length ∧ goodF l g.2) ?round (0, f1) ⟨Nat.zero_le _, hf1⟩) (by repeat' (first | exact EnvSub.nil _ | exact HeapSub.nil _ | refine EnvSub.cons rfl ?_ | refine HeapSub.cons rfl ?_ | (refine EnvSub.cons (by simp [Env.get]; done) ?_) | (refine HeapSub.cons (by simp [Heap.get]; done) ?_))) (by repeat' (first | exact EnvSub.nil _ | exact HeapSub.nil _ | refine EnvSub.cons rfl ?_ | refine HeapSub.cons rfl ?_ | (refine EnvSub.cons (by simp [Env.get]; done) ?_) | (refine HeapSub.cons (by simp [Heap.get]; done) ?_)))
      case round =>
        rintro ⟨k, f2⟩ ⟨hk, hf2⟩ ih2
        dsimp only at hk hf2 ih2 ⊢
        refine hκ.run 300 ?_
        simp (disch := omega) only [exec_succ, runR_next, stepS, runOp, condS, toSR, sop, sInt, sBin, ev, Env.get, eq_self, List.size_toArray, List.length_cons, List.length_nil, List.range, List.range.loop, List.getElem?_toArray, List.getElem?_cons_zero, ↓reduceIte, Nat.reduceLT, Nat.reduceEqDiff, Nat.zero_add, gl0, cntH]
        refine OutOK_fork (fun h => ?_) (fun h => ?_) <;> try simp only [decide_eq_true_eq, decide_eq_false_iff_not] at h
        · have ht : (bits (alw w s)).take (k + 1) = (bits (alw w s)).take k ++ [(bits (alw w s)).getD k default] := by
            rw [List.take_succ_eq_append_getElem (by omega), List.getD, List.getElem?_eq_getElem (by omega)]; rfl
          have hc : 0 ≤ (bits (alw w s)).getD k default ∧ (bits (alw w s)).getD k default < 8 := by
            rw [List.getD, List.getElem?_eq_getElem (by omega)]; exact bits_bd (List.getElem_mem _)
          have hz := fun f h => ih2 (k + 1, f) ⟨by dsimp only; omega, h⟩ (by dsimp only; omega)
          dsimp only at hz
          rw [ht, List.foldl_append, List.foldl_cons, List.foldl_nil] at hz
          generalize ((bits (alw w s)).take k).foldl (fun n c => max n (1 + mostN (l.drop (i + 1)) (dif s (2 ^ c.toNat)))) (mostN (l.drop (i + 1)) s) = acc at hz ⊢
          have hp := pow_lt_256 (c := ((bits (alw w s)).getD k default).toNat) (by omega)
          simp (disch := omega) only [allQuiet, quietOp, drawS, exec_succ, runR_next, runR_need, runR_stop, stepS, runOp, toSR, sop, rOf, sLoad, sIndexAddr, elemT, obind, ev, Env.get, takeN, cut, aggOf, OutOK_need, OutOK_stop, Option.isNone_none, eq_self, Bool.and_true, Bool.and_false, List.size_toArray, List.length_cons, List.length_nil, List.length_map, List.range, List.range.loop, List.getElem?_toArray, List.getElem?_cons_succ, List.getElem?_cons_zero, ↓reduceIte, Nat.reduceAdd, Nat.reduceLT, Nat.reduceEqDiff, Nat.zero_add, Int.toNat_natCast, getD_map, eI, Tryd.sz3, Tryd.ag3, Tryd.underlying26]
          (repeat (refine ⟨by first | omega | (refine ⟨?_, ?_⟩ <;> omega) | trivial | (simp; done) | decide +kernel, fun _ => ?_⟩))
          refine hκ.draw (.q 0 (.q 1 (.q 2 (.q 3 (.q 4 (.q 5 (.q 6 (.q 7 (.l 8 [] (.q 9 (.q 10 (.l 11 [] (.fin))))))))))))) [0, 1, 2, 3, 4, 5, 6, 7, 9, 10] (by kernel_rfl) (by kernel_rfl) rfl ?_
          simp (disch := omega) only [sop, rOf, sLoadIn, sLoad, sInt, sBin, ev, evs, Env.get, Heap.get, takeN, cut, aggOf, setO, drawP_q, drawP_l, dq, dqn, dl, guardP, R1Q, dstOK, loudP, eq_self, List.getElem?_toArray, List.getElem?_cons_succ, List.getElem?_cons_zero, ↓reduceIte, Nat.reduceLT, Nat.reduceEqDiff, Nat.add_one_ne_zero, true_and, reduceCtorEq, shAmt_of, IntKind.bits, wrap_i64, gl0, Tryd.sz60, Tryd.ag60]
          refine ⟨by omega, fun _ => ?_⟩
          generalize (bits (alw w s)).getD k default = c at hc hz hp ⊢
          rw [pow32 _ (by omega), andNot32 (by omega) (by omega)]
          have hd8 : dif s (2 ^ c.toNat) < 256 := Nat.lt_of_le_of_lt (dif_le _ _) hs
          have hle2 := mostN_le (l.drop (i + 1)) (dif s (2 ^ c.toNat))
          refine DCall.of (does_count hκ.hP hκ.hgl (step _ hd8 f2 hf2) ⟨rfl, rfl, rfl, rfl⟩ (Nat.le_refl _) fun f3 hf3 => ?_)
          simp (disch := omega) only [sBuiltin, sMinMax, sop, rOf, sInt, sBin, ev, Env.get, setO, drawP_fin, drawP_q, drawP_l, dnext, dq, dqn, dl, guardP, R1Q, dstOK, loudP, again, R1OK, without, eq_self, List.getElem?_toArray, List.getElem?_cons_succ, List.getElem?_cons_zero, List.map_cons, List.map_nil, List.cons_append, List.nil_append, ↓reduceIte, Nat.reduceLT, Nat.reduceEqDiff, true_and, wrap_i64, cntH]
          refine hκ.run 300 ?_
          simp (disch := omega) only [exec_succ, runR_next, runR_stop, stepS, runOp, toSR, sop, rOf, sInt, sBin, ev, Env.get, OutOK_stop, eq_self, List.size_toArray, List.length_cons, List.length_nil, List.range, List.range.loop, List.getElem?_toArray, List.getElem?_cons_succ, List.getElem?_cons_zero, ↓reduceIte, Nat.reduceAdd, Nat.reduceLT, Nat.reduceEqDiff, Nat.zero_add, wrap_i64, gl0]
          have hy := hz f3 hf3
          have em : ((max acc (1 + mostN (l.drop (i + 1)) (dif s (2 ^ c.toNat))) : Nat) : Int) = max (acc : Int) (1 + mostN (l.drop (i + 1)) (dif s (2 ^ c.toNat))) := by omega
          rw [em] at hy
          exact hy.less (by repeat' (first | exact EnvSub.nil _ | exact HeapSub.nil _ | refine EnvSub.cons rfl ?_ | refine HeapSub.cons rfl ?_ | (refine EnvSub.cons (by simp [Env.get]; done) ?_) | (refine HeapSub.cons (by simp [Heap.get]; done) ?_))) (by repeat' (first | exact EnvSub.nil _ | exact HeapSub.nil _ | refine EnvSub.cons rfl ?_ | refine HeapSub.cons rfl ?_ | (refine EnvSub.cons (by simp [Env.get]; done) ?_) | (refine HeapSub.cons (by simp [Heap.get]; done) ?_)))
        · simp (disch := omega) only [sMapUp, sMapUpIn, keyS, intCells, exec_succ, runR_next, runR_stop, stepS, runOp, goS, toSR, sop, rOf, isArr, sLoadIn, sLoad, fillS, evps, sBuild, ev, svs, Env.get, Heap.get, Heap.set, takeN, cut, over, paste, aggOf, cellsS, idFree, idFree', exitTo, Value.cells, OutOK_stop, undefS, undef, eq_self, List.size_toArray, List.length_cons, List.length_nil, List.range, List.range.loop, List.getElem?_toArray, List.getElem?_cons_succ, List.getElem?_cons_zero, List.map_cons, List.map_nil, List.toList_toArray, ↓reduceIte, Nat.reduceAdd, Nat.reduceLT, Nat.reduceEqDiff, Nat.zero_add, Nat.add_one_ne_zero, beq_self_eq_true, and_self, reduceCtorEq, Tryd.sz59, Tryd.ag59, Tryd.mp59, Tryd.ze62, Tryd.pl62]
          obtain rfl : k = (bits (alw w s)).length := by omega
          rw [List.take_length]
          have e : mostN (l.drop i) s = (bits (alw w s)).foldl (fun n c => max n (1 + mostN (l.drop (i + 1)) (dif s (2 ^ c.toNat)))) (mostN (l.drop (i + 1)) s) := by rw [hd, mostN, if_neg h0]
          rw [← e]
          refine hκ.ret _ _ _ _ _ _ trivial rfl ?_
          exact Post.same ⟨_, goodF_add hf2 (by omega), rfl, rfl, rfl⟩ (fun _ _ h => h)
theorem most_ok (l : List Msk) (s : Nat) (hl : ∀ m ∈ l, u32M m) (hn : l.length < 2 ^ 40) (hs : s < 256) : Con Tryd.prog gl0 (fnv 29) [Ms l, S s] 0 [] (Ret (I (mostN l s))) := by
  refine Con.of Tryd.ok29 (nt := 12) (res := [.tmp 4]) Tryd.mixed Tryd.func29 rfl rfl rfl rfl fun κ xc hκ => hκ.run 300 ?_
  simp (disch := omega) only [sMakeMap, exec_succ, runR_next, runR_need, runR_call, stepS, runOp, toSR, sop, rOf, rNew, sAlloc, sAlloc0, sBox, isArr, sLoadIn, sLoad, sStoreIn, sStore, sMakeFunc, ev, evs, svs, Env.get, Heap.get, Heap.set, takeN, cut, over, paste, aggOf, cellsS, one, ones, envOf, OutOK_need, OutOK_call, undefS, undef, eq_self, Bool.false_eq_true, List.size_toArray, List.length_cons, List.length_nil, List.range, List.range.loop, List.getElem?_toArray, List.getElem?_cons_succ, List.getElem?_cons_zero, List.map_cons, List.map_nil, ↓reduceIte, Nat.reduceAdd, Nat.reduceLT, Nat.reduceEqDiff, Nat.zero_add, true_and, and_self, forall_const, reduceCtorEq, gl0, Tryd.sz59, Tryd.ze59, Tryd.ar59, Tryd.mp59, Tryd.sz60, Tryd.ag60, Tryd.ze60, Tryd.ar60]
  have hc := count_ok1 l hl hn l.length 0 s (fun _ => none) (by omega) (Nat.zero_le _) hs (fun ns v h => by cases h)
  refine Does.fn hκ.hP hκ.hgl 4 (fun i => if i = 1 then 2 else if i = 2 then 3 else if i = 3 then 1 else i) [0, 1, 2, 3] _ _ (cntH l fun _ => none) hc (by simp [SV.ren, SV.renL]) (by simp [SV.ren, SV.renL]) (by simp [SV.bnd, SV.bndL]) (by simp [SV.bnd, SV.bndL]) (fun i hi => by (try dsimp only); (repeat' split) <;> omega) (fun i j hi hj h => by (try dsimp only at h); revert h; (repeat' split) <;> omega) ?_ ?_
  · exact cnt_hand (by rfl) (by rfl) (by rfl) (by rfl)
  · rintro r H' n' ⟨f', hf', rfl, rfl, rfl⟩
    refine ⟨by repeat' (first | exact Once.nil | refine Once.cons (by simp) ?_), fun _ => ?_⟩
    refine hκ.run 300 ?_
    simp (disch := omega) only [exec_succ, runR_next, runR_stop, stepS, runOp, toSR, sop, rOf, ev, Env.get, setO, OutOK_stop, without, eq_self, List.drop_zero, List.getElem?_toArray, List.getElem?_cons_succ, List.getElem?_cons_zero, ↓reduceIte, Nat.reduceSub, Nat.reduceLT, Nat.add_zero, gl0, SV.ren]
    refine hκ.ret _ _ _ _ _ _ trivial rfl ?_
    exact .ret trivial
theorem mMost_ok (l : List Msk) (s : Nat) (hl : ∀ m ∈ l, u32M m) (hn : l.length < 2 ^ 40) (hs : s < 4294967296) : Con Tryd.prog gl0 (fnv 22) [Ms l, S s] 0 [] (Ret (.tup [I (if askM l s = 0 then mostN l s else 0 : Nat), I (askM l s)])) := by
  refine Con.of Tryd.ok22 (nt := 16) (res := [.tmp 4, .tmp 5]) Tryd.mixed Tryd.func22 rfl rfl rfl rfl fun κ xc hκ => hκ.run 300 ?_
  simp (disch := omega) only [exec_succ, runR_next, runR_call, stepS, runOp, toSR, sop, rOf, ev, evs, Env.get, envOf, OutOK_call, eq_self, List.size_toArray, List.length_cons, List.length_nil, List.range, List.range.loop, List.getElem?_toArray, List.getElem?_cons_succ, List.getElem?_cons_zero, ↓reduceIte, Nat.reduceAdd, Nat.reduceLT, Nat.reduceEqDiff, Nat.zero_add, Nat.add_one_ne_zero, reduceCtorEq, gl0]
  refine Does.ret hκ.hP hκ.hgl (masked_ok l s hl (by omega) hs) ⟨trivial, by simp [SV.bnd, SV.bndL], by first | (simp [SV.bnd]; done) | assumption⟩ ?_
  refine hκ.run 300 ?_
  simp (disch := omega) only [exec_succ, runR_next, stepS, runOp, condS, toSR, sop, rOf, sInt, sBin, ev, Env.get, setO, eq_self, List.size_toArray, List.length_cons, List.length_nil, List.range, List.range.loop, List.getElem?_toArray, List.getElem?_cons_succ, List.getElem?_cons_zero, ↓reduceIte, Nat.reduceAdd, Nat.reduceLT, Nat.zero_add, gl0]
  refine OutOK_fork (fun h => ?_) (fun h => ?_) <;> try simp only [decide_eq_true_eq, decide_eq_false_iff_not, Bool.not_eq_true', Bool.not_eq_false'] at h
  · simp (disch := omega) only [exec_succ, runR_next, runR_stop, stepS, runOp, toSR, sop, rOf, ev, Env.get, OutOK_stop, eq_self, List.size_toArray, List.length_cons, List.length_nil, List.range, List.range.loop, List.getElem?_toArray, List.getElem?_cons_succ, List.getElem?_cons_zero, ↓reduceIte, Nat.reduceAdd, Nat.reduceLT, Nat.reduceEqDiff, Nat.zero_add]
    refine hκ.ret _ _ _ _ _ _ trivial rfl ?_
    rw [if_neg h]
    exact .ret (by simp [SV.bnd, SV.bndL])
  · simp (disch := omega) only [exec_succ, runR_next, runR_call, stepS, runOp, toSR, sop, rOf, ev, evs, Env.get, OutOK_call, eq_self, List.size_toArray, List.length_cons, List.length_nil, List.range, List.range.loop, List.getElem?_toArray, List.getElem?_cons_succ, List.getElem?_cons_zero, ↓reduceIte, Nat.reduceAdd, Nat.reduceLT, Nat.reduceEqDiff, Nat.zero_add, Nat.add_one_ne_zero, reduceCtorEq]
    have hs2 : s < 256 := by
      unfold askM at h
      split at h
      · split at h
        · assumption
        · omega
      · omega
    refine Does.ret hκ.hP hκ.hgl (most_ok l s hl hn hs2) ⟨trivial, by simp [SV.bnd, SV.bndL], by first | (simp [SV.bnd]; done) | assumption⟩ ?_
    refine hκ.run 300 ?_
    simp (disch := omega) only [exec_succ, runR_next, runR_stop, stepS, runOp, toSR, sop, rOf, ev, Env.get, setO, OutOK_stop, eq_self, List.getElem?_toArray, List.getElem?_cons_succ, List.getElem?_cons_zero, ↓reduceIte, Nat.reduceLT, gl0]
    refine hκ.ret _ _ _ _ _ _ trivial rfl ?_
    rw [if_pos h, h]
    exact .ret (by simp [SV.bnd, SV.bndL])
theorem fits_ok (l : List Msk) (s : Nat) (hl : ∀ m ∈ l, u32M m) (hn : l.length < 2 ^ 40) (hs : s < 4294967296) : Con Tryd.prog gl0 (fnv 23) [Ms l, S s] 0 [] (Ret (Bo (decide (askM l s = 0) && decide (mostN l s = l.length)))) := by
  refine Con.of Tryd.ok23 (nt := 21) (res := [.tmp 4]) Tryd.mixed Tryd.func23 rfl rfl rfl rfl fun κ xc hκ => hκ.run 300 ?_
  simp (disch := omega) only [exec_succ, runR_next, runR_call, stepS, runOp, toSR, sop, rOf, ev, evs, Env.get, envOf, OutOK_call, eq_self, List.size_toArray, List.length_cons, List.length_nil, List.range, List.range.loop, List.getElem?_toArray, List.getElem?_cons_succ, List.getElem?_cons_zero, ↓reduceIte, Nat.reduceAdd, Nat.reduceLT, Nat.reduceEqDiff, Nat.zero_add, Nat.add_one_ne_zero, reduceCtorEq, gl0]
  refine Does.ret hκ.hP hκ.hgl (mMost_ok l s hl hn hs) ⟨trivial, by simp [SV.bnd, SV.bndL], by first | (simp [SV.bnd, SV.bndL]; done) | assumption⟩ ?_
  by_cases h : askM l s = 0
  · rw [if_pos h, h]
    rw [h] at hκ
    refine hκ.run 300 ?_
    simp (disch := omega) only [sBuiltin, exec_succ, runR_next, runR_guard_tt, runR_stop, stepS, runOp, guardS, toSR, sop, rOf, sPick, sInt, sBin, sExtract, sLen, ev, Env.get, setO, OutOK_stop, undefS, undef, eq_self, List.size_toArray, List.length_cons, List.length_nil, List.length_map, List.range, List.range.loop, List.getElem?_toArray, List.getElem?_cons_succ, List.getElem?_cons_zero, Option.bind_some, ↓reduceIte, Nat.reduceAdd, Nat.reduceLT, Nat.reduceEqDiff, Nat.zero_add, Nat.add_one_ne_zero, Bool.not_true, decide_true, and_self, gl0, Tryd.underlying22]
    refine hκ.ret _ _ _ _ _ _ trivial rfl ?_
    have e : decide ((mostN l s : Int) = l.length) = decide (mostN l s = l.length) := decide_eq_decide.2 (by omega)
    simp only [decide_true, Bool.true_and, e]
    exact .ret trivial
  · rw [if_neg h]
    have e : (askM l s = 0) = False := by simp [h]
    refine hκ.run 300 ?_
    simp (disch := omega) only [sBuiltin, exec_succ, runR_next, runR_guard_ft, runR_stop, stepS, runOp, guardS, toSR, sop, rOf, sPick, sInt, sEq, sEqR, sBin, sExtract, sLen, ev, Env.get, setO, OutOK_stop, undefS, undef, eq_self, Int.cast_ofNat_Int, List.size_toArray, List.length_cons, List.length_nil, List.range, List.range.loop, List.getElem?_toArray, List.getElem?_cons_succ, List.getElem?_cons_zero, Option.bind_some, ↓reduceIte, Nat.reduceAdd, Nat.reduceLT, Nat.reduceEqDiff, Nat.zero_add, Nat.add_one_ne_zero, Bool.not_true, decide_false, and_self, gl0, e]
    refine hκ.ret _ _ _ _ _ _ trivial rfl ?_
    simp only [decide_eq_false h, Bool.false_and]
    exact .ret trivial
/-- The first choice, while there is one. -/
def choiceN : List Msk → Nat → List Int
  | [], _ => []
  | m :: l, s => match (bits (alw m s)).find? fun c => decide (mostN l (dif s (2 ^ c.toNat)) = l.length) with
    | some c => c :: choiceN l (dif s (2 ^ c.toNat))
    | none => []
def choiceV (l : List Msk) (s : Nat) : SV := if askM l s = 0 then (if mostN l s < l.length then .tup [.v (.slice none 0 0), I 4] else .tup [.rd 1 ((choiceN l s).map (eI .i64)), I 0]) else .tup [.v (.slice none 0 0), I (askM l s)]
theorem choice_ok (l : List Msk) (s : Nat) (hl : ∀ m ∈ l, u32M m) (hn : l.length < 2 ^ 40) (hs : s < 4294967296) : Con Tryd.prog gl0 (fnv 9) [Ms l, S s] 0 [] (Ret (choiceV l s)) := by
  refine Con.of Tryd.ok9 (nt := 65) (res := [.tmp 4, .tmp 5]) Tryd.mixed Tryd.func9 rfl rfl rfl rfl fun κ xc hκ => hκ.run 300 ?_
  simp (disch := omega) only [exec_succ, runR_next, runR_call, stepS, runOp, toSR, sop, rOf, ev, evs, Env.get, envOf, OutOK_call, eq_self, List.size_toArray, List.length_cons, List.length_nil, List.range, List.range.loop, List.getElem?_toArray, List.getElem?_cons_succ, List.getElem?_cons_zero, ↓reduceIte, Nat.reduceAdd, Nat.reduceLT, Nat.reduceEqDiff, Nat.zero_add, Nat.add_one_ne_zero, reduceCtorEq, gl0]
  refine Does.ret hκ.hP hκ.hgl (masked_ok l s hl (by omega) hs) ⟨trivial, by simp [SV.bnd, SV.bndL], by first | (simp [SV.bnd]; done) | assumption⟩ ?_
  refine hκ.run 300 ?_
  simp (disch := omega) only [exec_succ, runR_next, stepS, runOp, condS, toSR, sop, rOf, sInt, sBin, ev, Env.get, setO, eq_self, List.size_toArray, List.length_cons, List.length_nil, List.range, List.range.loop, List.getElem?_toArray, List.getElem?_cons_succ, List.getElem?_cons_zero, ↓reduceIte, Nat.reduceAdd, Nat.reduceLT, Nat.zero_add, gl0]
  refine OutOK_fork (fun h => ?_) (fun h => ?_) <;> try simp only [decide_eq_true_eq, decide_eq_false_iff_not, Bool.not_eq_true', Bool.not_eq_false'] at h
  · simp (disch := omega) only [exec_succ, runR_next, runR_stop, stepS, runOp, toSR, sop, rOf, ev, Env.get, OutOK_stop, eq_self, List.size_toArray, List.length_cons, List.length_nil, List.range, List.range.loop, List.getElem?_toArray, List.getElem?_cons_succ, List.getElem?_cons_zero, ↓reduceIte, Nat.reduceAdd, Nat.reduceLT, Nat.reduceEqDiff, Nat.zero_add]
    refine hκ.ret _ _ _ _ _ _ trivial rfl ?_
    rw [choiceV, if_neg h]
    exact .ret (by simp [SV.bnd, SV.bndL])
  · simp (disch := omega) only [exec_succ, runR_next, runR_call, stepS, runOp, toSR, sop, rOf, ev, evs, Env.get, OutOK_call, eq_self, List.size_toArray, List.length_cons, List.length_nil, List.range, List.range.loop, List.getElem?_toArray, List.getElem?_cons_succ, List.getElem?_cons_zero, ↓reduceIte, Nat.reduceAdd, Nat.reduceLT, Nat.reduceEqDiff, Nat.zero_add, Nat.add_one_ne_zero, reduceCtorEq]
    have hs2 : s < 256 := by
      unfold askM at h
      split at h
      · split at h
        · assumption
        · omega
      · omega
    have h0 := h
    refine Does.ret hκ.hP hκ.hgl (most_ok l s hl hn hs2) ⟨trivial, by simp [SV.bnd, SV.bndL], by first | (simp [SV.bnd]; done) | assumption⟩ ?_
    refine hκ.run 300 ?_
    simp (disch := omega) only [sBuiltin, exec_succ, runR_next, stepS, runOp, condS, toSR, sop, rOf, sInt, sBin, sLen, ev, Env.get, setO, eq_self, List.length_map, List.getElem?_toArray, List.getElem?_cons_succ, List.getElem?_cons_zero, ↓reduceIte, Nat.reduceLT, Nat.reduceEqDiff, Nat.add_one_ne_zero, gl0, Tryd.underlying22]
    refine OutOK_fork (fun h => ?_) (fun h => ?_) <;> try simp only [decide_eq_true_eq, decide_eq_false_iff_not] at h
    · simp (disch := omega) only [exec_succ, runR_next, runR_stop, stepS, runOp, toSR, sop, rOf, ev, OutOK_stop, List.size_toArray, List.length_cons, List.length_nil, List.range, List.range.loop, List.getElem?_toArray, List.getElem?_cons_succ, List.getElem?_cons_zero, ↓reduceIte, Nat.reduceAdd, Nat.reduceLT, Nat.zero_add]
      refine hκ.ret _ _ _ _ _ _ trivial rfl ?_
      rw [choiceV, if_pos h0, if_pos (by omega)]
      exact .ret (by simp [SV.bnd, SV.bndL])
    · simp (disch := omega) only [sBuiltin, exec_succ, runR_next, runR_stop, stepS, runOp, toSR, sop, rOf, sLen, ev, Env.get, OutOK_stop, eq_self, List.size_toArray, List.length_cons, List.length_nil, List.length_map, List.range, List.range.loop, List.getElem?_toArray, List.getElem?_cons_succ, List.getElem?_cons_zero, ↓reduceIte, Nat.reduceAdd, Nat.reduceLT, Nat.zero_add, Nat.add_one_ne_zero, Tryd.underlying22]
      have hcv : choiceV l s = .tup [.rd 1 ((choiceN l s).map (eI .i64)), I 0] := by rw [choiceV, if_pos h0, if_neg (by omega)]
      rw [hcv] at hκ
      refine Sat.nilRow 7 1 3 rfl ?_
      refine Sat.less (Sat.loop (γ := Nat × List Int × Nat × Nat) (fun g => ([(27, I g.1), (26, I l.length), (25, Ms l), (7, .sl 0 1 0 g.2.1.length g.2.2.2), (1, S g.2.2.1), (0, Ms l)], [(0, .row 1 g.2.2.2 3 (g.2.1.map (eI .i64)))], 1)) (fun g => l.length - g.1)
        (fun g => g.1 ≤ l.length ∧ g.2.2.1 < 256 ∧ g.2.1.length ≤ g.1 ∧ g.2.1 ++ choiceN (l.drop g.1) g.2.2.1 = choiceN l s) ?round (0, [], s, 0) ⟨Nat.zero_le _, hs2, Nat.le_refl _, rfl⟩) (by repeat' (first | exact EnvSub.nil _ | exact HeapSub.nil _ | refine EnvSub.cons rfl ?_ | refine HeapSub.cons rfl ?_ | (refine EnvSub.cons (by simp [Env.get]; done) ?_) | (refine HeapSub.cons (by simp [Heap.get]; done) ?_))) (by repeat' (first | exact EnvSub.nil _ | exact HeapSub.nil _ | refine EnvSub.cons rfl ?_ | refine HeapSub.cons rfl ?_ | (refine EnvSub.cons (by simp [Env.get]; done) ?_) | (refine HeapSub.cons (by simp [Heap.get]; done) ?_)))
      case round =>
        rintro ⟨k, out, fr, cap⟩ ⟨hk, hfr, hol, hch⟩ ih
        dsimp only at hk hfr hol hch ih ⊢
        refine Sat.room 0 rfl fun hroom => ?_
        rw [List.length_map] at hroom
        refine hκ.run 300 ?_
        simp (disch := omega) only [exec_succ, runR_next, stepS, runOp, condS, toSR, sop, sInt, sBin, ev, Env.get, eq_self, List.size_toArray, List.length_cons, List.length_nil, List.range, List.range.loop, List.getElem?_toArray, List.getElem?_cons_zero, ↓reduceIte, Nat.reduceLT, Nat.reduceEqDiff, Nat.zero_add, gl0]
        refine OutOK_fork (fun h => ?_) (fun h => ?_) <;> try simp only [decide_eq_true_eq, decide_eq_false_iff_not] at h
        · have hm : l.getD k default ∈ l := by
            rw [List.getD, List.getElem?_eq_getElem (by omega)]; exact List.getElem_mem _
          have hd : l.drop k = l.getD k default :: l.drop (k + 1) := by
            rw [List.drop_eq_getElem_cons (by omega), List.getD, List.getElem?_eq_getElem (by omega)]; rfl
          rw [hd, choiceN] at hch
          have hm1 := hl _ hm
          have hz := fun out fr cap h1 h2 h3 => ih (k + 1, out, fr, cap) ⟨by dsimp only; omega, h1, h2, h3⟩ (by dsimp only; omega)
          dsimp only at hz
          simp (disch := omega) only [exec_succ, runR_next, runR_need, runR_call, stepS, runOp, toSR, sop, rOf, rNew, sAlloc, sAlloc0, sLoadIn, sLoad, sStoreIn, sStore, sIndexAddr, elemT, obind, ev, evs, svs, Env.get, Heap.get, Heap.set, takeN, cut, over, paste, aggOf, cellsS, one, ones, Value.oneCell', OutOK_need, OutOK_call, undefS, undef, eq_self, List.size_toArray, List.length_cons, List.length_nil, List.length_map, List.range, List.range.loop, List.getElem?_toArray, List.getElem?_cons_succ, List.getElem?_cons_zero, List.map_cons, List.map_nil, ↓reduceIte, Nat.reduceAdd, Nat.reduceLT, Nat.reduceEqDiff, Nat.zero_add, Int.toNat_natCast, true_and, and_self, forall_const, getD_map, Tryd.underlying22, Tryd.sz31, Tryd.ag31, Tryd.ze31, Tryd.ar31, eK]
          (repeat (refine ⟨by first | omega | (refine ⟨?_, ?_⟩ <;> omega) | trivial | (simp; done) | decide +kernel, fun _ => ?_⟩))
          generalize l.getD k default = w at hm1 hch ⊢
          refine Does.ret hκ.hP hκ.hgl (allows_ok w fr hm1 (by omega)) ⟨trivial, by simp [SV.bnd, SV.bndL], by first | (simp [SV.bnd]; done) | assumption⟩ ?_
          refine hκ.run 300 ?_
          simp (disch := omega) only [exec_succ, runR_call, stepS, runOp, ev, evs, Env.get, setO, OutOK_call, eq_self, List.getElem?_toArray, List.getElem?_cons_succ, List.getElem?_cons_zero, ↓reduceIte, Nat.reduceLT, gl0]
          have ha := alw_lt w fr
          refine Does.ret hκ.hP hκ.hgl ((list_ok (alw w fr) (by omega)).toRd) ⟨trivial, by simp [SV.bnd, SV.bndL], by first | (simp [SV.bnd]; done) | assumption⟩ ?_
          refine hκ.run 300 ?_
          simp (disch := omega) only [sBuiltin, exec_succ, runR_next, runR_stop, stepS, runOp, toSR, sop, rOf, sLen, ev, Env.get, setO, OutOK_stop, eq_self, List.length_map, List.getElem?_toArray, List.getElem?_cons_succ, List.getElem?_cons_zero, ↓reduceIte, Nat.reduceLT, gl0, Tryd.underlying26]
          have hbl := bits_len (alw w fr)
          have hbb := fun c hc => bits_bd (s := alw w fr) (c := c) hc
          generalize bits (alw w fr) = cs at hbl hbb hch ⊢
          refine Sat.less (Sat.loop (γ := Nat) (fun j => ([(37, I j), (36, I cs.length), (35, .rd 1 (cs.map (eI .i64))), (8, I k), (27, I k), (26, I l.length), (25, Ms l), (7, .sl 0 1 0 out.length cap), (1, S fr), (0, Ms l)], [(0, .row 1 cap 3 (out.map (eI .i64)))], 2)) (fun j => cs.length - j)
            (fun j => j ≤ cs.length ∧ (cs.drop j).find? (fun c => decide (mostN (l.drop (k + 1)) (dif fr (2 ^ c.toNat)) = (l.drop (k + 1)).length)) = cs.find? (fun c => decide (mostN (l.drop (k + 1)) (dif fr (2 ^ c.toNat)) = (l.drop (k + 1)).length))) ?round2 0 ⟨Nat.zero_le _, rfl⟩) (by repeat' (first | exact EnvSub.nil _ | exact HeapSub.nil _ | refine EnvSub.cons rfl ?_ | refine HeapSub.cons rfl ?_ | (refine EnvSub.cons (by simp [Env.get]; done) ?_) | (refine HeapSub.cons (by simp [Heap.get]; done) ?_))) (by repeat' (first | exact EnvSub.nil _ | exact HeapSub.nil _ | refine EnvSub.cons rfl ?_ | refine HeapSub.cons rfl ?_ | (refine EnvSub.cons (by simp [Env.get]; done) ?_) | (refine HeapSub.cons (by simp [Heap.get]; done) ?_)))
          case round2 =>
            rintro j ⟨hj, hfi⟩ ih2
            dsimp only at ih2 ⊢
            refine hκ.run 300 ?_
            simp (disch := omega) only [exec_succ, runR_next, stepS, runOp, condS, toSR, sop, sInt, sBin, ev, Env.get, eq_self, List.size_toArray, List.length_cons, List.length_nil, List.range, List.range.loop, List.getElem?_toArray, List.getElem?_cons_zero, ↓reduceIte, Nat.reduceLT, Nat.reduceEqDiff, Nat.zero_add, gl0]
            refine OutOK_fork (fun h => ?_) (fun h => ?_) <;> try simp only [decide_eq_true_eq, decide_eq_false_iff_not] at h
            · have hc : cs.getD j default ∈ cs := by
                rw [List.getD, List.getElem?_eq_getElem (by omega)]; exact List.getElem_mem _
              have hdj : cs.drop j = cs.getD j default :: cs.drop (j + 1) := by
                rw [List.drop_eq_getElem_cons (by omega), List.getD, List.getElem?_eq_getElem (by omega)]; rfl
              obtain ⟨c1, c2⟩ := hbb _ hc
              have hp := pow_lt_256 (c := (cs.getD j default).toNat) (by omega)
              rw [hdj, List.find?_cons] at hfi
              have hz2 := fun h => ih2 (j + 1) ⟨by omega, h⟩ (by omega)
              simp (disch := omega) only [exec_succ, runR_next, runR_need, runR_call, stepS, runOp, toSR, sop, rOf, sLoad, sInt, sBin, sIndexAddr, optI, sSlice, cutL, elemT, obind, ev, evs, Env.get, takeN, cut, aggOf, OutOK_need, OutOK_call, eq_self, List.size_toArray, List.length_cons, List.length_nil, List.length_map, List.range, List.range.loop, List.getElem?_toArray, List.getElem?_cons_succ, List.getElem?_cons_zero, Option.map_some, Option.map_none, Option.getD_some, Option.getD_none, ↓reduceIte, Nat.reduceAdd, Nat.reduceLT, Nat.reduceEqDiff, Nat.zero_add, Nat.add_one_ne_zero, Int.toNat_natCast, getD_map, eI, shAmt_of, IntKind.bits, wrap_i64, Tryd.sz3, Tryd.ag3, Tryd.underlying22, Tryd.underlying26, Tryd.sz31]
              (repeat (refine ⟨by first | omega | (refine ⟨?_, ?_⟩ <;> omega) | trivial | (simp; done) | decide +kernel, fun _ => ?_⟩))
              generalize cs.getD j default = c at c1 c2 hp hfi ⊢
              rw [pow32 _ (by omega), andNot32 (by omega) (by omega)]
              (repeat (refine ⟨by first | omega | (refine ⟨?_, ?_⟩ <;> omega) | trivial | (simp; done) | decide +kernel, fun _ => ?_⟩))
              rw [show ((k : Int) + 1).toNat = k + 1 by omega, ← List.map_drop]
              have e6 : (l.drop (k + 1)).length = l.length - (k + 1) := by simp
              have hd8 : dif fr (2 ^ c.toNat) < 256 := Nat.lt_of_le_of_lt (dif_le _ _) hfr
              have hle := mostN_le (l.drop (k + 1)) (dif fr (2 ^ c.toNat))
              refine Does.ret hκ.hP hκ.hgl (most_ok (l.drop (k + 1)) (dif fr (2 ^ c.toNat)) (fun m hm => hl m (List.mem_of_mem_drop hm)) (by omega) hd8) ⟨trivial, by simp [SV.bnd, SV.bndL], by first | (simp [SV.bnd]; done) | assumption⟩ ?_
              by_cases hq : mostN (l.drop (k + 1)) (dif fr (2 ^ c.toNat)) = (l.drop (k + 1)).length
              · rw [decide_eq_true hq] at hfi
                simp only at hfi
                rw [← hfi] at hch
                have e7 : ((mostN (l.drop (k + 1)) (dif fr (2 ^ c.toNat)) : Int) = (l.length : Int) - k - 1) = True := by simp only [eq_iff_iff, iff_true]; omega
                refine hκ.run 300 ?_
                simp (disch := omega) only [sBuiltin, srcS, appArgS, sAppendTo, sAppend, exec_succ, runR_next, runR_need, runR_all, runR_fork_true, runR_stop, stepS, runOp, condS, goS, toSR, sop, rOf, rNew, isArr, sInt, sBin, sLen, sliceT, obind, fillS, evps, repeatL, sBuildSlice, chunk, ev, svs, Env.get, Heap.get, Heap.drop, over, paste, cellsS, one, ones, idFree, idFrees, setO, exitTo, Value.cells, Value.oneCell', OutOK_need, OutOK_all, OutOK_stop, eq_self, Bool.and_true, List.drop_zero, List.take_succ_cons, List.take_nil, Bool.false_eq_true, List.size_toArray, List.length_cons, List.length_nil, List.length_map, List.range, List.range.loop, List.getElem?_toArray, List.getElem?_cons_succ, List.getElem?_cons_zero, List.map_cons, List.map_nil, List.append_nil, List.toList_toArray, ↓reduceIte, Nat.reduceAdd, Nat.reduceLT, Nat.reduceLeDiff, Nat.reduceEqDiff, Nat.zero_add, Nat.mul_one, Nat.add_one_ne_zero, Nat.reduceBEq, decide_true, beq_self_eq_true, ne_eq, not_false_eq_true, true_and, and_self, forall_const, wrap_i64, gl0, Tryd.sz3, Tryd.ze3, Tryd.by3, Tryd.underlying22, Tryd.underlying26, e7]
                (repeat (refine ⟨by first | omega | (refine ⟨?_, ?_⟩ <;> omega) | trivial | (simp; done) | decide +kernel, fun _ => ?_⟩))
                intro cap2
                have hy := hz (out ++ [c]) (dif fr (2 ^ c.toNat)) (out.length + 1 + cap2) hd8 (by simp; omega) (by rw [← hch]; simp)
                have et : List.take out.length (List.map (eI .i64) out) = List.map (eI .i64) out := List.take_of_length_le (by simp)
                simp only [List.length_append, List.length_cons, List.length_nil, Nat.zero_add, Int.natCast_add, Int.natCast_one, List.map_append, List.map_cons, List.map_nil, eI] at hy ⊢
                rw [et]
                refine Sat.via (fun _ => 3) (hy) (by intro i j; (repeat (first | omega | split))) (by repeat' (first | exact EnvVia.nil | refine EnvVia.cons (by first | trivial | decide | (simp [SV.bnd]; done)) rfl ?_)) (by repeat' (first | exact HeapVia.nil | refine HeapVia.cons (by decide) (by first | trivial | (simp [Blk.bnd, SV.bnd, SV.bndL]; done) | exact bndL_mapV _ _ _ | exact LR.bnd (by rw [l2]; simp [bndE, SV.bnd, SV.bndL]) (by rw [l6]; decide)) (by first | rfl | (simp only [Blk.ren, renL_mapV]; rfl) | (rw [LR.ren (by rw [l2] <;> rfl) (by rw [l6] <;> rfl)]; rfl)) ?_)) ⟨by have := hκ.hm; (try dsimp only at this); (first | done | omega), fun i hi => by have := hκ.hm; (try dsimp only at this); (first | omega | (dsimp only; omega) | (rw [if_neg (by omega)]))⟩ ⟨by simp, rfl⟩
              · rw [decide_eq_false hq] at hfi
                simp only at hfi
                have e7 : ((mostN (l.drop (k + 1)) (dif fr (2 ^ c.toNat)) : Int) = (l.length : Int) - k - 1) = False := by simp only [eq_iff_iff, iff_false]; omega
                refine hκ.run 300 ?_
                simp (disch := omega) only [sBuiltin, exec_succ, runR_next, runR_fork_false, runR_stop, stepS, runOp, condS, toSR, sop, rOf, sInt, sBin, sLen, ev, Env.get, setO, OutOK_stop, eq_self, List.size_toArray, List.length_cons, List.length_nil, List.length_map, List.range, List.range.loop, List.getElem?_toArray, List.getElem?_cons_succ, List.getElem?_cons_zero, ↓reduceIte, Nat.reduceAdd, Nat.reduceLT, Nat.reduceEqDiff, Nat.zero_add, Nat.add_one_ne_zero, decide_false, wrap_i64, gl0, Tryd.underlying22, e7]
                exact (hz2 hfi).less (by repeat' (first | exact EnvSub.nil _ | exact HeapSub.nil _ | refine EnvSub.cons rfl ?_ | refine HeapSub.cons rfl ?_ | (refine EnvSub.cons (by simp [Env.get]; done) ?_) | (refine HeapSub.cons (by simp [Heap.get]; done) ?_))) (by repeat' (first | exact EnvSub.nil _ | exact HeapSub.nil _ | refine EnvSub.cons rfl ?_ | refine HeapSub.cons rfl ?_ | (refine EnvSub.cons (by simp [Env.get]; done) ?_) | (refine HeapSub.cons (by simp [Heap.get]; done) ?_)))
            · simp (disch := omega) only [exec_succ, runR_next, runR_stop, stepS, runOp, goS, toSR, sop, rOf, ev, Env.get, exitTo, OutOK_stop, eq_self, Bool.false_eq_true, List.size_toArray, List.length_cons, List.length_nil, List.range, List.range.loop, List.getElem?_toArray, List.getElem?_cons_succ, List.getElem?_cons_zero, ↓reduceIte, Nat.reduceAdd, Nat.reduceLT, Nat.reduceEqDiff, Nat.zero_add, Nat.reduceBEq, beq_self_eq_true]
              obtain rfl : j = cs.length := by omega
              rw [List.drop_length] at hfi
              rw [← hfi] at hch
              simp only [List.find?_nil, List.append_nil] at hch
              subst hch
              have et : List.take (choiceN l s).length (List.map (eI .i64) (choiceN l s)) = List.map (eI .i64) (choiceN l s) := List.take_of_length_le (by simp)
              refine hκ.ret _ _ _ _ _ _ trivial rfl ?_
              refine Post.frz [0] (by first | (simp [lendPL, lendP, lendSlP, dropL, Heap.get, resV]; done) | (simp [lendPL, lendP, lendSlP, dropL, Heap.get, resV]; omega)) ?_
              simp only [resV, lendL, lendS, lendSl, dropL, Heap.get, List.mem_cons, List.not_mem_nil, or_false, List.drop_zero, ↓reduceIte, et]
              exact .ret (by simp [SV.bnd, SV.bndL])
        · simp (disch := omega) only [exec_succ, runR_next, runR_stop, stepS, runOp, goS, toSR, sop, rOf, ev, Env.get, exitTo, OutOK_stop, eq_self, List.size_toArray, List.length_cons, List.length_nil, List.range, List.range.loop, List.getElem?_toArray, List.getElem?_cons_succ, List.getElem?_cons_zero, ↓reduceIte, Nat.reduceAdd, Nat.reduceLT, Nat.reduceEqDiff, Nat.zero_add, beq_self_eq_true]
          obtain rfl : k = l.length := by omega
          rw [List.drop_length, choiceN, List.append_nil] at hch
          subst hch
          have et : List.take (choiceN l s).length (List.map (eI .i64) (choiceN l s)) = List.map (eI .i64) (choiceN l s) := List.take_of_length_le (by simp)
          refine hκ.ret _ _ _ _ _ _ trivial rfl ?_
          refine Post.frz [0] (by first | (simp [lendPL, lendP, lendSlP, dropL, Heap.get, resV]; done) | (simp [lendPL, lendP, lendSlP, dropL, Heap.get, resV]; omega)) ?_
          simp only [resV, lendL, lendS, lendSl, dropL, Heap.get, List.mem_cons, List.not_mem_nil, or_false, List.drop_zero, ↓reduceIte, et]
          exact .ret (by simp [SV.bnd, SV.bndL])
end Go.Proofs.YtgmedcnpgpehfaaDoor

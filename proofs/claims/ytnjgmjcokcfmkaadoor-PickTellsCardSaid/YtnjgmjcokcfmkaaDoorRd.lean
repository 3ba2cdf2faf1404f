/- A loop over a map: the rules of its three operations. No condition. -/
import Derived.Test.YtnjgmjcokcfmkaaDoorSyu
import Derived.Maps.RangeRun
import Derived.Test.YtnjgmjcokcfmkaaDoorRc
namespace Go.Sy
open Go
set_option linter.unusedSimpArgs false
set_option linter.unusedVariables false

/-- What is known of a map's entries. -/
structure MapP (ag : Bool) (ks : List IntKind) (f : List Int → Option SV) (es : Array MapEntry) (clock : Nat) : Prop where
  in_ : ∀ e ∈ es.toList, ∃ ns s, ns.length = ks.length ∧ e.key = keyV ag ks ns ∧ f ns = some s ∧ ∀ v, s = .v v → e.val = v
  out : ∀ ns s, ns.length = ks.length → f ns = some s → ∃ e ∈ es.toList, e.key = keyV ag ks ns
  nd : (es.toList.map (·.key)).Nodup
  bd : ∀ e ∈ es.toList, e.born < clock
  bn : (es.toList.map (·.born)).Nodup

/-- A map is taken as it is. -/
theorem Sat.mapObj {κ : Kx} {x : Ctx} {k : List Item} {env : Env} {H : Heap} {nx : Nat} {dfs : List Nat} (i : Nat) {ag : Bool} {ks : List IntKind} {f : List Int → Option SV} (hi : H.get i = some (.map ag ks f))
    (h : ∀ es clock, MapP ag ks f es clock → Sat κ x ⟨k, env, H.set i (.obj (.map es clock)), nx, dfs⟩) : Sat κ x ⟨k, env, H, nx, dfs⟩ := by
  intro ν w a hn hH hE hD
  obtain ⟨hid, es, clock, hes, hM⟩ := hH.ok i _ hi
  refine h es clock ⟨fun e he => ?_, hM.out, hM.nd, hM.bd, hM.bn⟩ ν w a hn ?_ hE hD
  · obtain ⟨ns, s, h1, h2, h3, h4⟩ := hM.in_ e he
    refine ⟨ns, s, h1, h2, h3, fun v hv => ?_⟩
    subst hv
    simpa only [Rel] using h4
  · exact hH.write hi trivial (fun _ _ => rfl) rfl (.refl _) ⟨hid, fun c T fz h => by simp at h, hes⟩

section
variable {κ : Kx} {x : Ctx} {ops : Array Oper} {i : Nat} {r : List Nat} {k : List Item} {o : Oper} {env : Env} {H : Heap} {nx : Nat} {dfs : List Nat} {d : Nat}
/-- 'range m'. -/
theorem Sat.rangeMap (ho : ops[i]? = some o) (hg : o.guard = none) {t kt et : TypeId} {x0 : Operand} {m : Nat} (hop : o.op = .range t x0) (hu : κ.P.underlying t = some (.map kt et)) (hx : ev x.gl env x0 = some (.mp m))
    {es : Array MapEntry} {clock : Nat} (hm : H.get m = some (.obj (.map es clock))) (hd : o.dst = some d) (hdn : d < κ.nt)
    (h : Sat κ x ⟨.inRegion ops r :: k, (d, .ptr nx 0 0 0) :: env, (nx, .iter m clock #[]) :: H, nx + 1, dfs⟩) : Sat κ x ⟨.inRegion ops (i :: r) :: k, env, H, nx, dfs⟩ := by
  intro ν w a hn hH hE hD
  have hn : ν.nx = nx := hn
  subst hn
  have he := ev_rel hH.glOK hE hx
  simp only [Rel] at he
  obtain ⟨hid, _, hes⟩ := hH.ok m _ hm
  have g := Grows.name ν w.heap.size
  refine lands_op_value (v := .pointer (some ⟨w.heap.size, 0, none⟩)) (w' := { w with heap := w.heap.push (.mapIter (some (ν.blk m)) clock #[] clock) }) ho (by simp [Region.wanted, hg]) (by rw [hop]; simp) ?_ ?_
  · simp [execOp, hop, he.2, Instr.range, run_underlying hu, getObj, newObj, Sem.run, hes]
  · rw [hd]
    refine h (ν.name w.heap.size) _ _ rfl (hH.push (o := .mapIter (some (ν.blk m)) clock #[] clock) rfl ⟨rfl, rfl, rfl⟩ ?_) ((hE.grows g).put hdn ?_) (hD.grows g)
    · refine ⟨Nat.lt_succ_self _, Nat.lt_succ_of_lt hid, ?_⟩
      rw [Nm.name_blk, Nm.name_ne _ _ _ hid]; simp
    · exact ⟨Nat.lt_succ_self _, by rw [Nm.name_blk]⟩
/-- The loop's step: nothing is left, or an entry comes that has not come before. -/
theorem Sat.nextMap (ho : ops[i]? = some o) (hg : o.guard = none) {x0 : Operand} {id m : Nat} (hop : o.op = .next x0 false) (hx : ev x.gl env x0 = some (.ptr id 0 0 0))
    {es : Array MapEntry} {clock : Nat} {seen : Array Nat} (hi : H.get id = some (.iter m clock seen)) (hm : H.get m = some (.obj (.map es clock))) (hb : ∀ e ∈ es.toList, e.born < clock) (hd : o.dst = some d) (hdn : d < κ.nt)
    (done : (∀ e ∈ es.toList, e.born ∈ seen.toList) → Sat κ x ⟨.inRegion ops r :: k, (d, .tup [.v (.bool false)]) :: env, H, nx, dfs⟩)
    (more : ∀ e, e ∈ es.toList → e.born ∉ seen.toList → Sat κ x ⟨.inRegion ops r :: k, (d, .tup [.v (.bool true), .v e.key, .v e.val]) :: env, H.set id (.iter m clock (seen.push e.born)), nx, dfs⟩) :
    Sat κ x ⟨.inRegion ops (i :: r) :: k, env, H, nx, dfs⟩ := by
  intro ν w a hn hH hE hD
  have he := ev_rel hH.glOK hE hx
  simp only [Rel] at he
  obtain ⟨hid, hmd, hit⟩ := hH.ok id _ hi
  obtain ⟨_, _, hes⟩ := hH.ok m _ hm
  have hw : Region.wanted o (yielded ops a.tmps) = true := by simp [Region.wanted, hg]
  have hlt : ν.blk id < w.heap.size := (Array.getElem?_eq_some_iff.1 hit).1
  have hrel : ∀ vs : List SV, ∀ l : List Value, RelL ν vs l → Rel ν (.tup vs) (.tuple l.toArray) := fun vs l h => ⟨_, rfl, by simpa using h⟩
  rcases run_next_at (P := κ.P) w o.type (ν.blk id) (ν.blk m) clock clock seen es clock hit hes hb (Nat.le_refl _) with ⟨h0, hrun⟩ | ⟨e, hel, w1, hw1, hrun⟩
  · refine lands_op_value (v := .tuple #[.bool false]) (w' := w) ho hw (by rw [hop]; simp) ?_ ?_
    · rw [execOp, hop]
      simp only [he.2, Nat.zero_mul, Nat.zero_add, Sem.run_bind, hrun, Result.andThen_ok]
      rfl
    · rw [hd]
      refine done (fun e he => ?_) ν w _ hn hH (hE.put hdn ?_) hD
      · have : leftOf es seen = #[] := Array.eq_empty_of_size_eq_zero h0
        unfold leftOf at this
        rw [Array.filter_eq_empty_iff] at this
        have := this e (by simpa using he)
        simpa using this
      · exact hrel [.v (.bool false)] [.bool false] (by simp [RelL, Rel])
  · have hel' : e ∈ es.toList ∧ e.born ∉ seen.toList := by
      unfold leftOf at hel
      simpa using hel
    have hw1' : w1.heap = w.heap ∧ Fix w w1 := by
      rcases hw1 with rfl | rfl
      · exact ⟨rfl, .refl _⟩
      · exact ⟨rfl, rfl, rfl, rfl⟩
    refine lands_op_value (v := .tuple #[.bool true, e.key, e.val]) (w' := ChangeMaps.setBlock w1 (ν.blk id) (.mapIter (some (ν.blk m)) clock (seen.push e.born) clock)) ho hw (by rw [hop]; simp) ?_ ?_
    · rw [execOp, hop]
      simp only [he.2, Nat.zero_mul, Nat.zero_add, Sem.run_bind, hrun, Result.andThen_ok]
      rfl
    · rw [hd]
      refine more e hel'.1 hel'.2 ν _ _ hn ?_ (hE.put hdn ?_) hD
      · have hf : Fix w (ChangeMaps.setBlock w1 (ν.blk id) (.mapIter (some (ν.blk m)) clock (seen.push e.born) clock)) := ⟨hw1'.2.os, hw1'.2.tape, hw1'.2.output⟩
        exact hH.write hi trivial (fun k hk => by simp [ChangeMaps.setBlock, hw1'.1, Array.getElem?_setIfInBounds, Ne.symm hk]) (by simp [ChangeMaps.setBlock, hw1'.1]) hf ⟨hid, hmd, by simp [ChangeMaps.setBlock, hw1'.1, hlt]⟩
      · exact hrel [.v (.bool true), .v e.key, .v e.val] [.bool true, e.key, e.val] (by simp [RelL, Rel])
/-- The entry that has come, read again. -/
theorem Sat.entryMap (ho : ops[i]? = some o) (hg : o.guard = none) {x0 : Operand} {id m : Nat} (hop : o.op = .entry x0) (hx : ev x.gl env x0 = some (.ptr id 0 0 0))
    {es : Array MapEntry} {clock : Nat} {seen : Array Nat} {e : MapEntry} (hi : H.get id = some (.iter m clock (seen.push e.born))) (hm : H.get m = some (.obj (.map es clock))) (he : e ∈ es.toList) (hb : (es.toList.map (·.born)).Nodup) (hd : o.dst = some d) (hdn : d < κ.nt)
    (h : Sat κ x ⟨.inRegion ops r :: k, (d, .tup [.v e.key, .v e.val]) :: env, H, nx, dfs⟩) : Sat κ x ⟨.inRegion ops (i :: r) :: k, env, H, nx, dfs⟩ := by
  intro ν w a hn hH hE hD
  have hev := ev_rel hH.glOK hE hx
  simp only [Rel] at hev
  obtain ⟨hid, hmd, hit⟩ := hH.ok id _ hi
  obtain ⟨_, _, hes⟩ := hH.ok m _ hm
  have hw : Region.wanted o (yielded ops a.tmps) = true := by simp [Region.wanted, hg]
  refine lands_op_value (v := .tuple #[e.key, e.val]) (w' := w) ho hw (by rw [hop]; simp) ?_ ?_
  · rw [execOp, hop]
    simp only [hev.2, Nat.zero_mul, Nat.zero_add, Sem.run_bind, run_entry_at w _ _ clock seen es clock e hit hes he hb, Result.andThen_ok]
    rfl
  · rw [hd]
    refine h ν w _ hn hH (hE.put hdn ?_) hD
    exact ⟨_, rfl, by simp [RelL, Rel]⟩
end
end Go.Sy
namespace Go.Proofs.YtnjgmjcokcfmkaaDoor
open Go Go.Sy
set_option maxRecDepth 100000
set_option linter.unusedSimpArgs false
set_option linter.unusedVariables false
set_option maxHeartbeats 8000000

/-- Each number once. -/
def uq : List Int → List Int
  | [] => []
  | x :: l => if x ∈ l then uq l else x :: uq l
theorem mem_uq {v : Int} : ∀ {l : List Int}, v ∈ uq l ↔ v ∈ l
  | [] => Iff.rfl
  | x :: l => by
    rw [uq]
    split
    · rename_i h
      rw [mem_uq, List.mem_cons]
      exact ⟨Or.inr, fun e => e.elim (fun e => e ▸ h) id⟩
    · rw [List.mem_cons, List.mem_cons, mem_uq]
theorem uq_nodup : ∀ l : List Int, (uq l).Nodup
  | [] => List.nodup_nil
  | x :: l => by
    rw [uq]
    split
    · exact uq_nodup l
    · rename_i h
      exact List.nodup_cons.2 ⟨fun e => h (mem_uq.1 e), uq_nodup l⟩
def chB (q : Int → Bool → Int → Bool → Bool) (was is : List (Int × Int)) (v : Int) : Bool := q ((onP was v).getD 0) (onP was v).isSome ((onP is v).getD 0) (onP is v).isSome
def chgL (q : Int → Bool → Int → Bool → Bool) (was is : List (Int × Int)) : List Int := sortI ((uq ((was ++ is).map Prod.fst)).filter (chB q was is))
theorem sortI_perm {a b : List Int} (h : a.Perm b) : sortI a = sortI b := by
  have s := fun l : List Int => List.pairwise_mergeSort (le := fun x y : Int => decide (x ≤ y)) (fun a b c h1 h2 => by simp only [decide_eq_true_eq] at *; omega) (fun a b => by simp only [Bool.or_eq_true, decide_eq_true_eq]; omega) l
  refine List.Perm.eq_of_pairwise (le := fun x y : Int => decide (x ≤ y) = true) (fun x y _ _ h1 h2 => by simp only [decide_eq_true_eq] at h1 h2; omega) (s a) (s b) ?_
  exact (List.mergeSort_perm a _).trans (h.trans (List.mergeSort_perm b _).symm)
/-- A map's entry's key. -/
def kOf : Value → Int
  | .int _ n => n
  | _ => 0
def kE (e : MapEntry) : Int := kOf e.key
structure KP (es : List MapEntry) (ks : List Int) : Prop where
  key : ∀ e ∈ es, e.key = .int .i64 (kE e)
  mem : ∀ n, n ∈ es.map kE ↔ n ∈ ks
  nd : (es.map kE).Nodup
/-- What the map holds. -/
def mapF (ks : List Int) (q : List Int) : Option SV := if q ∈ ks.map (fun n => [n]) then some (Bo true) else none
theorem mapF_snoc (ks : List Int) (n : Int) : mapF (ks ++ [n]) = fun q => if q = [n] then some (Bo true) else mapF ks q := by
  funext q
  have hm : q ∈ (ks ++ [n]).map (fun n => [n]) ↔ (q ∈ ks.map (fun n => [n]) ∨ q = [n]) := by
    rw [List.map_append, List.mem_append]; simp
  unfold mapF
  by_cases h : q = [n]
  · rw [if_pos h, if_pos (hm.2 (Or.inr h))]
  · rw [if_neg h]
    by_cases h2 : q ∈ ks.map (fun n => [n])
    · rw [if_pos h2, if_pos (hm.2 (Or.inl h2))]
    · rw [if_neg h2, if_neg (fun e => (hm.1 e).elim h2 h)]
theorem mapF_kp {ks : List Int} {es : Array MapEntry} {clock : Nat} (h : MapP false [.i64] (mapF ks) es clock) : KP es.toList ks := by
  have hk : ∀ e ∈ es.toList, e.key = .int .i64 (kE e) ∧ kE e ∈ ks := fun e he => by
    obtain ⟨ns, s, h1, h2, h3, -⟩ := h.in_ e he
    match ns, h1 with
    | [n], _ =>
      have h2 : e.key = .int .i64 n := h2
      have e1 : kE e = n := by rw [kE, h2]; rfl
      rw [mapF] at h3
      split at h3
      · rename_i hm
        obtain ⟨n', hn', e2⟩ := List.mem_map.1 hm
        obtain rfl : n' = n := by simpa using e2
        exact ⟨by rw [e1, h2], by rw [e1]; exact hn'⟩
      · cases h3
  refine ⟨fun e he => (hk e he).1, fun n => ⟨fun hn => ?_, fun hn => ?_⟩, ?_⟩
  · obtain ⟨e, he, rfl⟩ := List.mem_map.1 hn
    exact (hk e he).2
  · obtain ⟨e, he, h2⟩ := h.out [n] (Bo true) rfl (by rw [mapF, if_pos (List.mem_map.2 ⟨n, hn, rfl⟩)])
    have h2 : e.key = .int .i64 n := h2
    exact List.mem_map.2 ⟨e, he, by rw [kE, h2]; rfl⟩
  · have e1 : es.toList.map (·.key) = (es.toList.map kE).map (Value.int .i64) := by
      rw [List.map_map]
      exact List.map_congr_left fun e he => (hk e he).1
    have := h.nd
    rw [e1] at this
    exact List.Pairwise.of_map (S := fun a b => a ≠ b) _ (fun a b h1 h2 => h1 (by rw [h2])) this
theorem seen_all {es l : List MapEntry} (hn : (es.map (·.born)).Nodup) (hl : ∀ e ∈ l, e ∈ es) (hln : (l.map (·.born)).Nodup) (h : ∀ e ∈ es, e.born ∈ l.map (·.born)) : l.Perm es := by
  have inj : ∀ a ∈ es, ∀ b ∈ es, a.born = b.born → a = b := fun a ha b hb e => by
    obtain ⟨i, hi, rfl⟩ := List.getElem_of_mem ha
    obtain ⟨j, hj, rfl⟩ := List.getElem_of_mem hb
    have : i = j := (List.getElem?_inj (i := i) (j := j) (by simpa using hi) hn).1 (by simp [hi, hj, e])
    subst this; rfl
  refine (List.perm_ext_iff_of_nodup (List.Pairwise.of_map (S := fun a b => a ≠ b) _ (fun a b h1 h2 => h1 (by rw [h2])) hln) (List.Pairwise.of_map (S := fun a b => a ≠ b) _ (fun a b h1 h2 => h1 (by rw [h2])) hn)).2 fun a => ⟨hl a, fun ha => ?_⟩
  obtain ⟨b, hb, e⟩ := List.mem_map.1 (h a ha)
  rw [← inj b (hl b hb) a ha e]; exact hb
theorem len_lt {α : Type} {p q : α → Bool} : ∀ {l : List α} {e : α}, e ∈ l → (∀ x, q x = true → p x = true) → p e = true → q e = false → (l.filter q).length < (l.filter p).length
  | x :: l, e, he, hs, hp, hq => by
    have hle : ∀ l : List α, (l.filter q).length ≤ (l.filter p).length := fun l => by
      induction l with
      | nil => exact Nat.le_refl _
      | cons y l ih =>
        rw [List.filter_cons, List.filter_cons]
        by_cases h1 : q y = true
        · rw [if_pos h1, if_pos (hs y h1)]; simpa using ih
        · rw [if_neg h1]
          split
          · simp only [List.length_cons]; omega
          · exact ih
    rw [List.filter_cons, List.filter_cons]
    rcases List.mem_cons.1 he with rfl | he
    · rw [if_pos hp, if_neg (by rw [hq]; simp)]
      have := hle l
      simp only [List.length_cons]; omega
    · have ih := len_lt he hs hp hq
      by_cases h1 : q x = true
      · rw [if_pos h1, if_pos (hs x h1)]; simpa using ih
      · rw [if_neg h1]
        split
        · simp only [List.length_cons]; omega
        · exact ih
/-- How many are to come. -/
def leftN (es l : List MapEntry) : Nat := (es.filter fun e => decide (e.born ∉ l.map (·.born))).length
theorem left_lt {es l : List MapEntry} {e : MapEntry} (he : e ∈ es) (hn : e.born ∉ l.map (·.born)) : leftN es (l ++ [e]) < leftN es l := by
  refine len_lt he (fun x hx => ?_) (by simpa using hn) (by simp)
  simp only [decide_eq_true_eq, List.map_append, List.mem_append, not_or] at hx ⊢
  exact hx.1
end Go.Proofs.YtnjgmjcokcfmkaaDoor

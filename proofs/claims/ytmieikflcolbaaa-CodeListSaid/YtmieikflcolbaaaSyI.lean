/- append, copy, make, len, cap, min, max. No condition. -/
import Derived.Test.YtmieikflcolbaaaSyE
namespace Go.Sy
open Go
set_option linter.unusedSimpArgs false
set_option linter.unusedVariables false
theorem repeatL_length {α : Type} (l : List α) : ∀ n, (repeatL l n).length = n * l.length
  | 0 => by simp [repeatL]
  | n + 1 => by simp [repeatL, repeatL_length l n, Nat.add_mul]; omega
theorem repeatL_get {α : Type} (l : List α) : ∀ n k, k < n * l.length → (repeatL l n)[k]? = l[k % l.length]?
  | 0, k, h => by simp at h
  | n + 1, k, h => by
    simp only [repeatL]
    rw [Nat.add_mul, Nat.one_mul] at h
    by_cases hk : k < l.length
    · rw [List.getElem?_append_left hk, Nat.mod_eq_of_lt hk]
    · rw [List.getElem?_append_right (by omega), repeatL_get l n _ (by omega)]
      rw [Nat.mod_eq_sub_mod (by omega : k ≥ l.length)]
theorem zeros_eq (z : Array Value) (n : Nat) : ((Array.range (n * z.size)).map (z[· % z.size]!)).toList = repeatL z.toList n := by
  apply List.ext_getElem?
  intro k
  by_cases hk : k < n * z.size
  · rw [repeatL_get _ _ _ (by simpa using hk)]
    have hm : k % z.size < z.size := Nat.mod_lt _ (Nat.pos_of_ne_zero (by rintro h; simp [h] at hk))
    simp [hk, Array.getElem!_eq_getD, Array.getD, hm]
  · rw [List.getElem?_eq_none (by simp; omega), List.getElem?_eq_none (by rw [repeatL_length]; simp; omega)]
theorem zeroCells_eq (z : Array Value) (n : Nat) : (Builtin.zeroCells z n).toList = repeatL z.toList n := zeros_eq z n
def SrcOK (ν : Nm) (w : World) (v : Value) (sz : Nat) (xs : List (List SV)) (cs : List Value) : Prop :=
  ∃ a cap, v = .slice a xs.length cap ∧ xs.length ≤ cap ∧ Rows sz xs ∧ RelLL ν.free xs cs ∧ (∀ v ∈ cs, v.oneCell' = true) ∧
    (xs.length ≠ 0 → ∃ b o, a = some ⟨b, o, none⟩ ∧ ∀ j v, cs[j]? = some v → w.cell? ⟨b, o + j, none⟩ = some v)
section
variable {P : Program} {x : Ctx} {ν : Nm} {H : Heap} {w : World} {Q : SV → Heap → Nat → Prop}
theorem SrcOK.first {v : Value} {k sz : Nat} {xs : List (List SV)} {cs : List Value} (h : SrcOK ν w v sz xs cs) (hk : k ≤ xs.length) (w' : World) (hw : w'.heap = w.heap) :
    (Builtin.firstCells sz k v).run P w' = .ok (cs.take (k * sz)).toArray w' := by
  obtain ⟨a, cap, rfl, h2, h3, h4, h5, h6⟩ := h
  have hcl := h4.length h3
  have hle : k * sz ≤ cs.length := by rw [hcl]; exact Nat.mul_le_mul_right _ hk
  have hlen : (cs.take (k * sz)).length = k * sz := by simp; omega
  by_cases hc : xs.length = 0
  · have hk0 : k = 0 := by omega
    subst hk0
    cases a with
    | none => simpa using run_firstCells_none w' sz 0 xs.length cap
    | some b => simpa using run_firstCells_some (P := P) w' sz 0 b xs.length cap [] (by simp) (by simp)
  · obtain ⟨b, o, rfl, hbo⟩ := h6 hc
    refine run_firstCells_some w' sz k ⟨b, o, none⟩ xs.length cap (cs.take (k * sz)) hlen (fun j v hv => ?_)
    have hj := (List.getElem?_eq_some_iff.1 hv).1
    rw [List.getElem?_take_of_lt (by omega)] at hv
    rw [add_eq, cell?_heap (w := w) (by rw [hw])]
    exact hbo j v hv
theorem src_sound {sz : Nat} {s : Option SV} {p : Prop} {xs : List (List SV)} {v : Value} (hH : Holds x ν H w) (hs : ∀ u, s = some u → Rel ν u v) (h : srcS sz H s = some (p, xs)) (hp : p) : ∃ cs, SrcOK ν w v sz xs cs := by
  unfold srcS at h
  split at h
  · simp only [Option.some.injEq, Prod.mk.injEq] at h
    obtain ⟨rfl, rfl⟩ := h
    have := hs _ rfl
    simp only [Rel] at this
    subst this
    exact ⟨[], _, _, rfl, Nat.zero_le _, fun y hy => by simp at hy, rfl, by simp, fun h => absurd rfl h⟩
  · rename_i s' ys
    split at h
    case isFalse => cases h
    rename_i hsz
    subst hsz
    simp only [Option.some.injEq, Prod.mk.injEq] at h
    obtain ⟨rfl, rfl⟩ := h
    have := hs _ rfl
    simp only [Rel] at this
    obtain ⟨a, cap, cs, rfl, h2, h3, h4, h5, h6⟩ := this
    refine ⟨cs, a, cap, rfl, h2, h3, h4, h5, fun hne => ?_⟩
    obtain ⟨b, o, c, rfl, hro, hseg⟩ := h6 hne
    obtain ⟨T, fz, hc⟩ := hH.ro b c hro
    refine ⟨b, o, rfl, fun j v hv => ?_⟩
    rw [cell?_cells hc, hseg j (List.getElem?_eq_some_iff.1 hv).1]; exact hv
  · rename_i id s' off len cap
    split at h
    case isFalse => cases h
    rename_i hsz
    subst hsz
    split at h
    case h_2 => cases h
    rename_i s'' c T ys hb
    split at h
    case isFalse => cases h
    rename_i hsz
    subst hsz
    simp only [Option.some.injEq, Prod.mk.injEq] at h
    obtain ⟨rfl, rfl⟩ := h
    obtain ⟨p1, p2, p3⟩ := hp
    have hv := hs _ rfl
    simp only [Rel] at hv
    obtain ⟨_, a, rfl, ha⟩ := hv
    obtain ⟨_, hnc, hrows, cs, hrel, hones, hrow⟩ := hH.ok id _ hb
    have hlen : ((ys.drop off).take len).length = len := by simp; omega
    have hcl := hrel.length hrows
    have hle : off * s'' + len * s'' ≤ cs.length := by rw [hcl, ← Nat.add_mul]; exact Nat.mul_le_mul_right _ p1
    refine ⟨(cs.drop (off * s'')).take (len * s''), a, cap, by rw [hlen], by rw [hlen]; exact p2, (hrows.drop _).take _, (hrel.drop hrows _).take (hrows.drop _) _, fun v hv => hones v (List.mem_of_mem_drop (List.mem_of_mem_take hv)), fun hne => ?_⟩
    rw [hlen] at hne
    have hcap : 0 < cap := by omega
    obtain ⟨c', hc, _, hseg⟩ := hrow (p3 hcap)
    refine ⟨_, _, ha hcap, fun j v hv => ?_⟩
    have hj := (List.getElem?_eq_some_iff.1 hv).1
    simp only [List.length_take, List.length_drop] at hj
    rw [List.getElem?_take_of_lt (by omega), List.getElem?_drop] at hv
    rw [cell?_cells hc, hseg _ (by omega)]; exact hv
  · cases h
structure AppArg (P : Program) (w : World) (u : TypeId) (x : Value) (i : TypeInfo) (z : Value) (m : Nat) (cs : List Value) : Prop where
  kind : (∃ du, P.underlying u = some (.slice du) ∧ (Builtin.lenOf x).run P w = .ok m w ∧ ∀ w', w'.heap = w.heap → (Builtin.firstCells i.size m x).run P w' = .ok cs.toArray w') ∨
    (∃ k l, ∃ k', P.underlying u = some (.int k) ∧ x = .int k' l ∧ 0 ≤ l ∧ l * i.bytes ≤ 140737488355328 ∧ l ≤ 9223372036854775807 ∧ m = l.toNat ∧ z.cells.size = i.size ∧ cs = repeatL z.cells.toList l.toNat)
  len : cs.length = m * i.size
theorem wrap_i64' {x : Int} (h1 : -9223372036854775808 ≤ x) (h2 : x ≤ 9223372036854775807) : IntKind.i64.wrap x = x := by
  simp only [IntKind.wrap, IntKind.signed, IntKind.bits]
  simp
  omega
theorem run_sizeOf' {T : TypeId} {i : TypeInfo} (h : P.info? T = some i) (w : World) : (sizeOf T).run P w = .ok i.size w := run_sizeOf (by simp [tySize, h]) w
theorem run_typeInfo' {T : TypeId} {i : TypeInfo} (h : P.info? T = some i) (w : World) : (typeInfo T).run P w = .ok i w := by simp [typeInfo, h]
theorem run_zero' {T : TypeId} {i : TypeInfo} {z : Value} (h : P.info? T = some i) (hz : i.zero = some z) (w : World) : (zeroValue T).run P w = .ok z w := by simp [zeroValue, typeInfo, h, hz]
def storeB (base : Option Addr) (o : Nat) (vs : List Value) : Sem Unit := match base with
  | some a => storeCells (a.add o) vs
  | none => pure ()
theorem storeB_nil (base : Option Addr) (o : Nat) (w : World) : (storeB base o []).run P w = .ok () w := by cases base <;> rfl
theorem append_run {t u e ty : TypeId} {y : Value} {i : TypeInfo} {z : Value} {m : Nat} {cs : List Value} (ht : P.underlying t = some (.slice e)) (hi : P.info? e = some i) (hz : i.zero = some z) (hA : AppArg P w u y i z m cs)
    {base : Option Addr} {n cap : Nat} {olds : List Value} (hold : ∀ w', w'.heap = w.heap → (Builtin.firstCells i.size n (.slice base n cap)).run P w' = .ok olds.toArray w')
    (hb : (n + m) * i.bytes ≤ 140737488355328) (hmax : n + m ≤ 9223372036854775807) :
    (n + m ≤ cap → (Builtin.append_ #[t, u] ty #[.slice base n cap, y]).run P w = ((storeB base (n * i.size) cs).run P w).andThen fun _ w' => .ok (.slice base (n + m) cap) w') ∧
    (cap < n + m → ∃ C, n + m ≤ C ∧ (Builtin.append_ #[t, u] ty #[.slice base n cap, y]).run P w =
      .ok (.slice (some ⟨w.heap.size, 0, none⟩) (n + m) C) (w.drew.alloc (.cells (olds.toArray ++ (cs.toArray ++ Builtin.zeroCells z.cells (C - (n + m)))) e))) := by
  have hfit : cap < n + m → ¬ (281474976710656 < Builtin.nextslicecap (n + m) cap * i.bytes) := fun h => by
    have := growslice_fits h hb
    omega
  have h63 : ¬ (9223372036854775807 < (n : Int) + (m : Int)) := by omega
  have hdrew : w.drew.heap = w.heap := rfl
  have hcap : n + m ≤ (Question.appendCap (n + m) cap e).cut (w.tape w.drawn (.appendCap (n + m) cap e)) := by simp [Question.cut]
  rcases hA.kind with ⟨du, hu, hlen, hnews⟩ | ⟨k, l, k', hu, rfl, l0, l1, l2, rfl, hzs, rfl⟩
  · constructor
    · intro hle
      have e1 := hnews w rfl
      cases base with
      | none => simp [Builtin.append_, run_underlying ht, run_underlying hu, run_sizeOf' hi, hlen, hle, e1, storeB]
      | some a => simp [Builtin.append_, run_underlying ht, run_underlying hu, run_sizeOf' hi, hlen, hle, e1, storeB]
    · intro hlt
      refine ⟨_, hcap, ?_⟩
      have e1 := hnews w.drew rfl
      have e2 := hold w.drew rfl
      have hnle : ¬ n + m ≤ cap := by omega
      have hf := hfit hlt
      simp [Builtin.append_, run_underlying ht, run_underlying hu, run_sizeOf' hi, run_typeInfo' hi, run_zero' hi hz, hlen, hnle, e1, e2, h63, hf, newRow, Question.forced]
  · have hwl := wrap_i64' (x := l) (by omega) l2
    have hl0 : ¬ l < 0 := by omega
    have hl48 : ¬ (281474976710656 < l * (i.bytes : Int)) := by omega
    have hz1 : repeatL z.cells.toList l.toNat = (Builtin.zeroCells z.cells l.toNat).toList := by rw [zeroCells_eq]
    have h63' : ¬ (9223372036854775807 < (n : Int) + max l 0) := by omega
    have hdr : (zeroValue e).run P w.drew = .ok z w.drew := run_zero' hi hz _
    rw [hz1]
    by_cases h0 : l.toNat * i.size = 0
    · have hz0 : Builtin.zeroCells z.cells l.toNat = #[] := by
        apply Array.ext'
        rw [zeroCells_eq]
        apply List.eq_nil_of_length_eq_zero
        rw [repeatL_length]
        simpa [hzs] using h0
      rw [hz0]
      constructor
      · intro hle
        cases base with
        | none => simp [Builtin.append_, run_underlying ht, run_underlying hu, run_sizeOf' hi, run_typeInfo' hi, asInt, asIntOf, hwl, hl0, hl48, hle, h0, storeB]
        | some a => simp [Builtin.append_, run_underlying ht, run_underlying hu, run_sizeOf' hi, run_typeInfo' hi, asInt, asIntOf, hwl, hl0, hl48, hle, h0, storeB]
      · intro hlt
        refine ⟨_, hcap, ?_⟩
        have e2 := hold w.drew rfl
        have hnle : ¬ n + l.toNat ≤ cap := by omega
        have hf := hfit hlt
        simp [Builtin.append_, run_underlying ht, run_underlying hu, run_sizeOf' hi, run_typeInfo' hi, run_zero' hi hz, asInt, asIntOf, hwl, hl0, hl48, hnle, e2, h63', hf, newRow, Question.forced, h0]
    · constructor
      · intro hle
        cases base with
        | none => simp [Builtin.append_, run_underlying ht, run_underlying hu, run_sizeOf' hi, run_typeInfo' hi, run_zero' hi hz, asInt, asIntOf, hwl, hl0, hl48, hle, h0, storeB]
        | some a => simp [Builtin.append_, run_underlying ht, run_underlying hu, run_sizeOf' hi, run_typeInfo' hi, run_zero' hi hz, asInt, asIntOf, hwl, hl0, hl48, hle, h0, storeB]
      · intro hlt
        refine ⟨_, hcap, ?_⟩
        have e2 := hold w.drew rfl
        have hnle : ¬ n + l.toNat ≤ cap := by omega
        have hf := hfit hlt
        simp [Builtin.append_, run_underlying ht, run_underlying hu, run_sizeOf' hi, run_typeInfo' hi, run_zero' hi hz, asInt, asIntOf, hwl, hl0, hl48, hnle, e2, h63', hf, newRow, Question.forced, h0]
theorem appNew_sound {t u e ty : TypeId} {y : Value} {i : TypeInfo} {z : Value} {ys : List (List SV)} {p : Prop} {base : Option Addr} (ht : P.underlying t = some (.slice e)) (hi : P.info? e = some i) (hz : i.zero = some z) (hzs : z.cells.size = i.size)
    (hA : p → ∃ cs, AppArg P w u y i z ys.length cs ∧ Rows i.size ys ∧ RelLL ν.free ys cs ∧ ∀ v ∈ cs, v.oneCell' = true) (hH : Holds x ν H w) (hr : R1OK Q (appNew e i.size i.bytes p ys H ν.nx)) :
    OpR P x ν w (do pure (.value (← Builtin.append_ #[t, u] ty #[.slice base 0 0, y]))) Q := by
  unfold appNew at hr
  obtain ⟨⟨hp, hb, hmax⟩, hr⟩ := hr
  have hr : ∀ c, Q (.sl ν.nx i.size 0 ys.length (ys.length + c)) ((ν.nx, .row i.size (ys.length + c) e ys) :: H) (ν.nx + 1) := hr ⟨hp, hb, hmax⟩
  obtain ⟨cs, hA, hrows, hrel, hones⟩ := hA hp
  have hold : ∀ w', w'.heap = w.heap → (Builtin.firstCells i.size 0 (.slice base 0 0)).run P w' = .ok ([] : List Value).toArray w' := by
    intro w' _
    cases base with
    | none => exact run_firstCells_none w' _ 0 0 0
    | some b => exact run_firstCells_some w' i.size 0 b 0 0 [] (by simp) (by simp)
  obtain ⟨r1, r2⟩ := append_run (ty := ty) ht hi hz hA hold (by simpa using hb) (by omega)
  by_cases hm : ys.length = 0
  · have hys : ys = [] := List.eq_nil_of_length_eq_zero hm
    subst hys
    have hcs : cs = [] := hrel
    subst hcs
    have r1 := r1 (Nat.le_refl _)
    refine ⟨.slice base 0 0, w, ν.name 0, .sl ν.nx i.size 0 0 0, _, .inl ?_, Grows.name _ _, hH.nameEmpty, ?_, hr 0⟩
    · rw [storeB_nil] at r1
      simp only [Nat.add_zero, List.length_nil] at r1
      simp [r1]
    · exact ⟨Nat.lt_succ_self _, base, rfl, fun h => by omega⟩
  · obtain ⟨C, hC, r2⟩ := r2 (by omega)
    simp only [Nat.zero_add] at hC r2
    have := hr (C - ys.length)
    rw [show ys.length + (C - ys.length) = C by omega] at this
    have r3 : (do pure (.value (← Builtin.append_ #[t, u] ty #[.slice base 0 0, y])) : Sem Next).run P w = .ok (.value (.slice (some ⟨w.heap.size, 0, none⟩) ys.length C)) (w.drew.alloc (.cells (([] : List Value).toArray ++ (cs.toArray ++ Builtin.zeroCells z.cells (C - ys.length))) e)) := by
      rw [Sem.run_bind, r2]; rfl
    refine ⟨.slice (some ⟨w.heap.size, 0, none⟩) ys.length C, w.drew.alloc (.cells (([] : List Value).toArray ++ (cs.toArray ++ Builtin.zeroCells z.cells (C - ys.length))) e), ν.name w.heap.size, .sl ν.nx i.size 0 ys.length C, _, .inl r3, Grows.name _ _, ?_, ?_, this⟩
    · refine hH.pushRow (cells := ([] : List Value).toArray ++ (cs.toArray ++ Builtin.zeroCells z.cells (C - ys.length))) (zs := (Builtin.zeroCells z.cells (C - ys.length)).toList) hrows hrel hones hC (by simp) ?_ rfl (by exact ⟨rfl, rfl, rfl⟩)
      rw [zeroCells_eq, repeatL_length]; simp [hzs]
    · exact ⟨Nat.lt_succ_self _, _, rfl, fun _ => by simp [Nm.name_blk]⟩
theorem append_sound {t u ty : TypeId} {s q : Option SV} {a b : Value} (hH : Holds x ν H w) (hs : ∀ r, s = some r → Rel ν r a) (hq : ∀ r, q = some r → Rel ν r b)
    (hr : R1OK Q (sAppend (sliceT (P.underlying t)) (obind (tySize P) (sliceT (P.underlying t))) (obind (tyBytes P) (sliceT (P.underlying t))) (obind (tyZero P) (sliceT (P.underlying t))) (P.underlying u) H ν.nx s q)) :
    OpR P x ν w (do pure (.value (← Builtin.append_ #[t, u] ty #[a, b]))) Q := by
  unfold sAppend at hr
  split at hr
  case h_2 => exact hr.elim
  rename_i e sz by' zs he hsz hby hzz
  split at hr
  · exact hr.elim
  rename_i hsz0
  split at hr
  case isFalse => exact hr.elim
  rename_i hzl
  split at hr
  case h_2 => exact hr.elim
  rename_i p ys harg
  have ht : P.underlying t = some (.slice e) := by
    unfold sliceT at he
    split at he
    · rename_i h; simp only [Option.some.injEq] at he; rw [h, he]
    · exact absurd he (by simp)
  rw [he] at hsz hby hzz
  simp only [obind, tySize, tyBytes, tyZero, Option.map_eq_some_iff, Option.bind_eq_some_iff] at hsz hby hzz
  obtain ⟨i, hi, rfl⟩ := hsz
  obtain ⟨i', hi', rfl⟩ := hby
  obtain ⟨z, ⟨i'', hi'', hz⟩, rfl⟩ := hzz
  obtain rfl : i = i' := Option.some.inj (hi.symm.trans hi')
  obtain rfl : i = i'' := Option.some.inj (hi.symm.trans hi'')
  have hzs : z.cells.size = i.size := by simpa using hzl
  have hA : p → ∃ cs, AppArg P w u b i z ys.length cs ∧ Rows i.size ys ∧ RelLL ν.free ys cs ∧ ∀ v ∈ cs, v.oneCell' = true := by
    intro hp
    unfold appArgS at harg
    split at harg
    · rename_i k hu
      unfold zerosS at harg
      split at harg
      · rename_i k' l
        simp only [Option.some.injEq, Prod.mk.injEq] at harg
        obtain ⟨rfl, rfl⟩ := harg
        have := hq _ rfl
        simp only [Rel] at this
        subst this
        refine ⟨repeatL z.cells.toList l.toNat, ⟨.inr ⟨k, l, k', hu, rfl, hp.1, hp.2.1, hp.2.2.1, by simp, hzs, rfl⟩, by rw [repeatL_length]; simp [hzs]⟩, rows_replicate hzl _, relLL_replicate _ _, fun v hv => (List.all_eq_true.1 hp.2.2.2) v (repeatL_mem hv)⟩
      · exact absurd harg (by simp)
    · rename_i e2 hu
      obtain ⟨cs, hsrc⟩ := src_sound hH hq harg hp
      have hf := fun w' hw => hsrc.first (P := P) (Nat.le_refl _) w' hw
      obtain ⟨ba, cap, rfl, h2, h3, h4, h5, h6⟩ := hsrc
      have hcl := h4.length h3
      refine ⟨cs, ⟨.inl ⟨e2, hu, by simp [Builtin.lenOf], fun w' hw => ?_⟩, hcl⟩, h3, h4, h5⟩
      have := hf w' hw
      rwa [List.take_of_length_le (by omega)] at this
    · exact absurd harg (by simp)
  unfold sAppendTo at hr
  split at hr
  · have := hs _ rfl
    simp only [Rel] at this
    subst this
    exact appNew_sound ht hi hz hzs hA hH hr
  · rename_i id s' len cap
    have hsl := hs _ rfl
    split at hr
    case isFalse => exact hr.elim
    rename_i hss
    subst hss
    split at hr
    case h_2 => exact hr.elim
    rename_i s' c T xs hb
    split at hr
    case isFalse => exact hr.elim
    rename_i hss
    subst hss
    split at hr
    case isFalse => exact hr.elim
    rename_i hT
    subst hT
    obtain ⟨⟨hp, hlen, hcap, hbb, hmax⟩, hr⟩ := hr
    have hr2 : ∀ d, Q (.sl ν.nx i.size 0 (len + ys.length) (len + ys.length + d)) ((ν.nx, .row i.size (len + ys.length + d) T (xs.take len ++ ys)) :: H.drop id) (ν.nx + 1) := hr ⟨hp, hlen, hcap, hbb, hmax⟩
    subst hcap
    obtain ⟨cs, hA, hrows, hrel, hones⟩ := hA hp
    obtain ⟨hid, hnc, hxrows, os, hxrel, hxones, hrow⟩ := hH.ok id _ hb
    have hxl := hxrel.length hxrows
    have hcl := hrel.length hrows
    have hle0 : len * i.size ≤ os.length := by rw [hxl]; exact Nat.mul_le_mul_right _ hlen
    have hsl' := hsl
    simp only [Rel] at hsl'
    obtain ⟨_, base, rfl, hbase⟩ := hsl'
    have hnew : RelLL ν.free (xs.take len ++ ys) (os.take (len * i.size) ++ cs) := (hxrel.take hxrows len).append hrel
    have hnrows : Rows i.size (xs.take len ++ ys) := (hxrows.take _).append hrows
    have hnones : ∀ v ∈ os.take (len * i.size) ++ cs, v.oneCell' = true := fun v hv => (List.mem_append.1 hv).elim (fun h => hxones v (List.mem_of_mem_take h)) (hones v)
    have hnl : (xs.take len ++ ys).length = len + ys.length := by simp; omega
    have holdl : (os.take (len * i.size)).length = len * i.size := by simp; omega
    have hold : ∀ w', w'.heap = w.heap → (Builtin.firstCells i.size len (.slice base len cap)).run P w' = .ok (os.take (len * i.size)).toArray w' := fun w' hw => by
      by_cases hc0 : cap = 0
      · have hl0 : len = 0 := by omega
        subst hl0
        cases base with
        | none => simpa using run_firstCells_none w' i.size 0 0 cap
        | some b => simpa using run_firstCells_some (P := P) w' i.size 0 b 0 cap [] (by simp) (by simp)
      · obtain ⟨c', h1, h2, h3⟩ := hrow hc0
        have hb0 := hbase (by omega)
        simp only [Nat.zero_mul] at hb0
        subst hb0
        refine run_firstCells_some w' i.size len _ len cap (os.take (len * i.size)) holdl (fun j v hv => ?_)
        have hj := (List.getElem?_eq_some_iff.1 hv).1
        rw [List.getElem?_take_of_lt (by omega)] at hv
        rw [add_eq, cell?_heap (w := w) (by rw [hw]), cell?_cells h1, Nat.zero_add, h3 j (by omega)]; exact hv
    obtain ⟨r1, r2⟩ := append_run (ty := ty) ht hi hz hA hold hbb hmax
    have hH1 : Holds x ν (H.drop id) w := hH.less fun k b' hk => by
      rw [Heap.get_drop] at hk
      split at hk
      · exact absurd hk (by simp)
      · exact hk
    by_cases hle : len + ys.length ≤ cap
    · have r1 := r1 hle
      by_cases hc0 : cap = 0
      · subst hc0
        have hl0 : len = 0 := by omega
        have hm0 : ys = [] := List.eq_nil_of_length_eq_zero (by omega)
        subst hl0 hm0
        have hcs : cs = [] := hrel
        subst hcs
        rw [storeB_nil] at r1
        exact ⟨.slice base 0 0, w, ν.name 0, .sl ν.nx i.size 0 0 0, _, .inl (by simp only [Sem.run_bind, r1, Result.andThen_ok]; rfl), Grows.name _ _, hH1.nameEmpty, ⟨Nat.lt_succ_self _, base, rfl, fun h => by omega⟩, hr2 0⟩
      · obtain ⟨cc, h1, h2, h3⟩ := hrow hc0
        have hb0 := hbase (by omega)
        simp only [Nat.zero_mul] at hb0
        subst hb0
        have hmul : len * i.size + ys.length * i.size ≤ cc.size := by
          rw [h2, ← Nat.add_mul]; exact Nat.mul_le_mul_right _ hle
        have hst := run_storeCells_at (P := P) (ν.blk id) (len * i.size) T cs 0 cc w h1 (by omega) hones
        simp only [Nat.add_zero] at hst
        simp only [storeB, add_eq, Nat.zero_add, hst, Result.andThen_ok] at r1
        have := hr2 (cap - (len + ys.length))
        rw [show len + ys.length + (cap - (len + ys.length)) = cap by omega] at this
        have r3 : (do pure (.value (← Builtin.append_ #[t, u] ty #[.slice (some ⟨ν.blk id, 0, none⟩) len cap, b])) : Sem Next).run P w = .ok (.value (.slice (some ⟨ν.blk id, 0, none⟩) (len + ys.length) cap)) (w.setRow (ν.blk id) (cc.toList.take (len * i.size) ++ cs ++ cc.toList.drop (len * i.size + cs.length)).toArray) := by
          rw [Sem.run_bind, r1]; rfl
        refine ⟨_, _, ν.name (ν.blk id), .sl ν.nx i.size 0 (len + ys.length) cap, _, .inl r3, Grows.name _ _, ?_, ?_, this⟩
        · refine hH.move hb hc0 (fun k hk => setRow_other _ _ _ _ hk) (by simp) (fix_setRow _ _ _) ⟨Nat.lt_succ_self _, by rw [hnl]; exact hle, hnrows, _, hnew.grows (Grows.name _ _).free, hnones, fun _ => ⟨(cc.toList.take (len * i.size) ++ cs ++ cc.toList.drop (len * i.size + cs.length)).toArray, ?_, ?_, fun j hj => ?_⟩⟩
          · rw [Nm.name_blk]; exact setRow_heap w _ _ _ _ _ h1
          · simp only [List.size_toArray, List.length_append, List.length_take, List.length_drop, Array.length_toList]
            omega
          · have hsp := splice_get cc.toList cs (len * i.size) j (by rw [hcl]; simpa using hmul)
            simp only [List.getElem?_toArray, hsp]
            simp only [List.length_append, holdl] at hj
            by_cases hjl : j < len * i.size
            · rw [if_neg (by omega), List.getElem?_append_left (by omega), List.getElem?_take_of_lt hjl, ← h3 j (by omega)]
              simp
            · rw [if_pos (by omega), List.getElem?_append_right (by omega), holdl]
        · refine ⟨Nat.lt_succ_self _, _, rfl, fun _ => by simp [Nm.name_blk]⟩
    · obtain ⟨C, hC, r2⟩ := r2 (by omega)
      have := hr2 (C - (len + ys.length))
      rw [show len + ys.length + (C - (len + ys.length)) = C by omega] at this
      have r3 : (do pure (.value (← Builtin.append_ #[t, u] ty #[.slice base len cap, b])) : Sem Next).run P w = .ok (.value (.slice (some ⟨w.heap.size, 0, none⟩) (len + ys.length) C)) (w.drew.alloc (.cells ((os.take (len * i.size)).toArray ++ (cs.toArray ++ Builtin.zeroCells z.cells (C - (len + ys.length)))) T)) := by
        rw [Sem.run_bind, r2]; rfl
      refine ⟨_, w.drew.alloc (.cells ((os.take (len * i.size)).toArray ++ (cs.toArray ++ Builtin.zeroCells z.cells (C - (len + ys.length)))) T), ν.name w.heap.size, .sl ν.nx i.size 0 (len + ys.length) C, _, .inl r3, Grows.name _ _, ?_, ?_, this⟩
      · refine hH1.pushRow (cells := (os.take (len * i.size)).toArray ++ (cs.toArray ++ Builtin.zeroCells z.cells (C - (len + ys.length)))) (zs := (Builtin.zeroCells z.cells (C - (len + ys.length))).toList) hnrows hnew hnones (by rw [hnl]; exact hC) ?_ ?_ rfl ⟨rfl, rfl, rfl⟩
        · simp
        · rw [zeroCells_eq, repeatL_length, hnl]; simp [hzs]
      · exact ⟨Nat.lt_succ_self _, _, rfl, fun _ => by simp [Nm.name_blk]⟩
  · exact hr.elim
theorem append_soundC {t u ty : TypeId} {s q : Option SV} {a b : Value} (hH : Holds x ν H w) (hs : ∀ r, s = some r → Rel ν r a) (hq : ∀ r, q = some r → Rel ν r b)
    (hr : R1OK Q (sAppendC (sliceT (P.underlying t)) (obind (tySize P) (sliceT (P.underlying t))) (obind (tyBytes P) (sliceT (P.underlying t))) (obind (tyZero P) (sliceT (P.underlying t))) (P.underlying u) H ν.nx s q)) :
    OpR P x ν w (do pure (.value (← Builtin.append_ #[t, u] ty #[a, b]))) Q := by
  unfold sAppendC at hr
  split at hr
  case h_2 => exact hr.elim
  rename_i e sz by' zs he hsz hby hzz
  split at hr
  · exact hr.elim
  rename_i hsz0
  split at hr
  case isFalse => exact hr.elim
  rename_i hzl
  split at hr
  case h_2 => exact hr.elim
  rename_i p ys harg
  have ht : P.underlying t = some (.slice e) := by
    unfold sliceT at he
    split at he
    · rename_i h; simp only [Option.some.injEq] at he; rw [h, he]
    · exact absurd he (by simp)
  rw [he] at hsz hby hzz
  simp only [obind, tySize, tyBytes, tyZero, Option.map_eq_some_iff, Option.bind_eq_some_iff] at hsz hby hzz
  obtain ⟨i, hi, rfl⟩ := hsz
  obtain ⟨i', hi', rfl⟩ := hby
  obtain ⟨z, ⟨i'', hi'', hz⟩, rfl⟩ := hzz
  obtain rfl : i = i' := Option.some.inj (hi.symm.trans hi')
  obtain rfl : i = i'' := Option.some.inj (hi.symm.trans hi'')
  have hzs : z.cells.size = i.size := by simpa using hzl
  have hA : p → ∃ cs, AppArg P w u b i z ys.length cs ∧ Rows i.size ys ∧ RelLL ν.free ys cs ∧ ∀ v ∈ cs, v.oneCell' = true := by
    intro hp
    unfold appArgS at harg
    split at harg
    · rename_i k hu
      unfold zerosS at harg
      split at harg
      · rename_i k' l
        simp only [Option.some.injEq, Prod.mk.injEq] at harg
        obtain ⟨rfl, rfl⟩ := harg
        have := hq _ rfl
        simp only [Rel] at this
        subst this
        refine ⟨repeatL z.cells.toList l.toNat, ⟨.inr ⟨k, l, k', hu, rfl, hp.1, hp.2.1, hp.2.2.1, by simp, hzs, rfl⟩, by rw [repeatL_length]; simp [hzs]⟩, rows_replicate hzl _, relLL_replicate _ _, fun v hv => (List.all_eq_true.1 hp.2.2.2) v (repeatL_mem hv)⟩
      · exact absurd harg (by simp)
    · rename_i e2 hu
      obtain ⟨cs, hsrc⟩ := src_sound hH hq harg hp
      have hf := fun w' hw => hsrc.first (P := P) (Nat.le_refl _) w' hw
      obtain ⟨ba, cap, rfl, h2, h3, h4, h5, h6⟩ := hsrc
      have hcl := h4.length h3
      refine ⟨cs, ⟨.inl ⟨e2, hu, by simp [Builtin.lenOf], fun w' hw => ?_⟩, hcl⟩, h3, h4, h5⟩
      have := hf w' hw
      rwa [List.take_of_length_le (by omega)] at this
    · exact absurd harg (by simp)
  unfold sAppendToC at hr
  split at hr
  · rename_i id s' len cap
    have hsl := hs _ rfl
    split at hr
    case isFalse => exact hr.elim
    rename_i hss
    subst hss
    split at hr
    case h_2 => exact hr.elim
    rename_i s' c T xs hb
    split at hr
    case isFalse => exact hr.elim
    rename_i hss
    subst hss
    split at hr
    case isFalse => exact hr.elim
    rename_i hT
    subst hT
    obtain ⟨⟨hp, hlen, hcap, hbb, hmax⟩, hr⟩ := hr
    have hr2c : ∀ d, Q (.sl ν.nx i.size 0 (len + ys.length) (max cap (len + ys.length + d))) ((ν.nx, .row i.size (max cap (len + ys.length + d)) T (xs.take len ++ ys)) :: H.drop id) (ν.nx + 1) := hr ⟨hp, hlen, hcap, hbb, hmax⟩
    have hr2 : ∀ d, cap ≤ len + ys.length + d → Q (.sl ν.nx i.size 0 (len + ys.length) (len + ys.length + d)) ((ν.nx, .row i.size (len + ys.length + d) T (xs.take len ++ ys)) :: H.drop id) (ν.nx + 1) := fun d hd => by have := hr2c d; rwa [Nat.max_eq_right hd] at this
    subst hcap
    obtain ⟨cs, hA, hrows, hrel, hones⟩ := hA hp
    obtain ⟨hid, hnc, hxrows, os, hxrel, hxones, hrow⟩ := hH.ok id _ hb
    have hxl := hxrel.length hxrows
    have hcl := hrel.length hrows
    have hle0 : len * i.size ≤ os.length := by rw [hxl]; exact Nat.mul_le_mul_right _ hlen
    have hsl' := hsl
    simp only [Rel] at hsl'
    obtain ⟨_, base, rfl, hbase⟩ := hsl'
    have hnew : RelLL ν.free (xs.take len ++ ys) (os.take (len * i.size) ++ cs) := (hxrel.take hxrows len).append hrel
    have hnrows : Rows i.size (xs.take len ++ ys) := (hxrows.take _).append hrows
    have hnones : ∀ v ∈ os.take (len * i.size) ++ cs, v.oneCell' = true := fun v hv => (List.mem_append.1 hv).elim (fun h => hxones v (List.mem_of_mem_take h)) (hones v)
    have hnl : (xs.take len ++ ys).length = len + ys.length := by simp; omega
    have holdl : (os.take (len * i.size)).length = len * i.size := by simp; omega
    have hold : ∀ w', w'.heap = w.heap → (Builtin.firstCells i.size len (.slice base len cap)).run P w' = .ok (os.take (len * i.size)).toArray w' := fun w' hw => by
      by_cases hc0 : cap = 0
      · have hl0 : len = 0 := by omega
        subst hl0
        cases base with
        | none => simpa using run_firstCells_none w' i.size 0 0 cap
        | some b => simpa using run_firstCells_some (P := P) w' i.size 0 b 0 cap [] (by simp) (by simp)
      · obtain ⟨c', h1, h2, h3⟩ := hrow hc0
        have hb0 := hbase (by omega)
        simp only [Nat.zero_mul] at hb0
        subst hb0
        refine run_firstCells_some w' i.size len _ len cap (os.take (len * i.size)) holdl (fun j v hv => ?_)
        have hj := (List.getElem?_eq_some_iff.1 hv).1
        rw [List.getElem?_take_of_lt (by omega)] at hv
        rw [add_eq, cell?_heap (w := w) (by rw [hw]), cell?_cells h1, Nat.zero_add, h3 j (by omega)]; exact hv
    obtain ⟨r1, r2⟩ := append_run (ty := ty) ht hi hz hA hold hbb hmax
    have hH1 : Holds x ν (H.drop id) w := hH.less fun k b' hk => by
      rw [Heap.get_drop] at hk
      split at hk
      · exact absurd hk (by simp)
      · exact hk
    by_cases hle : len + ys.length ≤ cap
    · have r1 := r1 hle
      by_cases hc0 : cap = 0
      · subst hc0
        have hl0 : len = 0 := by omega
        have hm0 : ys = [] := List.eq_nil_of_length_eq_zero (by omega)
        subst hl0 hm0
        have hcs : cs = [] := hrel
        subst hcs
        rw [storeB_nil] at r1
        exact ⟨.slice base 0 0, w, ν.name 0, .sl ν.nx i.size 0 0 0, _, .inl (by simp only [Sem.run_bind, r1, Result.andThen_ok]; rfl), Grows.name _ _, hH1.nameEmpty, ⟨Nat.lt_succ_self _, base, rfl, fun h => by omega⟩, hr2 0 (by omega)⟩
      · obtain ⟨cc, h1, h2, h3⟩ := hrow hc0
        have hb0 := hbase (by omega)
        simp only [Nat.zero_mul] at hb0
        subst hb0
        have hmul : len * i.size + ys.length * i.size ≤ cc.size := by
          rw [h2, ← Nat.add_mul]; exact Nat.mul_le_mul_right _ hle
        have hst := run_storeCells_at (P := P) (ν.blk id) (len * i.size) T cs 0 cc w h1 (by omega) hones
        simp only [Nat.add_zero] at hst
        simp only [storeB, add_eq, Nat.zero_add, hst, Result.andThen_ok] at r1
        have := hr2 (cap - (len + ys.length)) (by omega)
        rw [show len + ys.length + (cap - (len + ys.length)) = cap by omega] at this
        have r3 : (do pure (.value (← Builtin.append_ #[t, u] ty #[.slice (some ⟨ν.blk id, 0, none⟩) len cap, b])) : Sem Next).run P w = .ok (.value (.slice (some ⟨ν.blk id, 0, none⟩) (len + ys.length) cap)) (w.setRow (ν.blk id) (cc.toList.take (len * i.size) ++ cs ++ cc.toList.drop (len * i.size + cs.length)).toArray) := by
          rw [Sem.run_bind, r1]; rfl
        refine ⟨_, _, ν.name (ν.blk id), .sl ν.nx i.size 0 (len + ys.length) cap, _, .inl r3, Grows.name _ _, ?_, ?_, this⟩
        · refine hH.move hb hc0 (fun k hk => setRow_other _ _ _ _ hk) (by simp) (fix_setRow _ _ _) ⟨Nat.lt_succ_self _, by rw [hnl]; exact hle, hnrows, _, hnew.grows (Grows.name _ _).free, hnones, fun _ => ⟨(cc.toList.take (len * i.size) ++ cs ++ cc.toList.drop (len * i.size + cs.length)).toArray, ?_, ?_, fun j hj => ?_⟩⟩
          · rw [Nm.name_blk]; exact setRow_heap w _ _ _ _ _ h1
          · simp only [List.size_toArray, List.length_append, List.length_take, List.length_drop, Array.length_toList]
            omega
          · have hsp := splice_get cc.toList cs (len * i.size) j (by rw [hcl]; simpa using hmul)
            simp only [List.getElem?_toArray, hsp]
            simp only [List.length_append, holdl] at hj
            by_cases hjl : j < len * i.size
            · rw [if_neg (by omega), List.getElem?_append_left (by omega), List.getElem?_take_of_lt hjl, ← h3 j (by omega)]
              simp
            · rw [if_pos (by omega), List.getElem?_append_right (by omega), holdl]
        · refine ⟨Nat.lt_succ_self _, _, rfl, fun _ => by simp [Nm.name_blk]⟩
    · obtain ⟨C, hC, r2⟩ := r2 (by omega)
      have := hr2 (C - (len + ys.length)) (by omega)
      rw [show len + ys.length + (C - (len + ys.length)) = C by omega] at this
      have r3 : (do pure (.value (← Builtin.append_ #[t, u] ty #[.slice base len cap, b])) : Sem Next).run P w = .ok (.value (.slice (some ⟨w.heap.size, 0, none⟩) (len + ys.length) C)) (w.drew.alloc (.cells ((os.take (len * i.size)).toArray ++ (cs.toArray ++ Builtin.zeroCells z.cells (C - (len + ys.length)))) T)) := by
        rw [Sem.run_bind, r2]; rfl
      refine ⟨_, w.drew.alloc (.cells ((os.take (len * i.size)).toArray ++ (cs.toArray ++ Builtin.zeroCells z.cells (C - (len + ys.length)))) T), ν.name w.heap.size, .sl ν.nx i.size 0 (len + ys.length) C, _, .inl r3, Grows.name _ _, ?_, ?_, this⟩
      · refine hH1.pushRow (cells := (os.take (len * i.size)).toArray ++ (cs.toArray ++ Builtin.zeroCells z.cells (C - (len + ys.length)))) (zs := (Builtin.zeroCells z.cells (C - (len + ys.length))).toList) hnrows hnew hnones (by rw [hnl]; exact hC) ?_ ?_ rfl ⟨rfl, rfl, rfl⟩
        · simp
        · rw [zeroCells_eq, repeatL_length, hnl]; simp [hzs]
      · exact ⟨Nat.lt_succ_self _, _, rfl, fun _ => by simp [Nm.name_blk]⟩
  · exact hr.elim
end
end Go.Sy

/- append, copy, make, len, cap, min, max. No condition. -/
import Derived.Test.YtnjgmjcokcfmkaaDoorSyE
namespace Go.Sy
open Go
set_option linter.unusedSimpArgs false
set_option linter.unusedVariables false

theorem repeatL_length {α : Type} (l : List α) : ∀ n, (repeatL l n).length = n * l.length
  | 0 => by simp [repeatL]
  | n + 1 => by simp [repeatL, repeatL_length l n, Nat.add_mul]; omega
theorem repeatL_get {α : Type} (l : List α) : ∀ n k, k < n * l.length → (repeatL l n)[k]? = l[k % l.length]?
  | 0, k, h => by simp at h
  | n + 1, k, h => by
    simp only [repeatL]
    rw [Nat.add_mul, Nat.one_mul] at h
    by_cases hk : k < l.length
    · rw [List.getElem?_append_left hk, Nat.mod_eq_of_lt hk]
    · rw [List.getElem?_append_right (by omega), repeatL_get l n _ (by omega)]
      rw [Nat.mod_eq_sub_mod (by omega : k ≥ l.length)]
theorem zeros_eq (z : Array Value) (n : Nat) : ((Array.range (n * z.size)).map (z[· % z.size]!)).toList = repeatL z.toList n := by
  apply List.ext_getElem?
  intro k
  by_cases hk : k < n * z.size
  · rw [repeatL_get _ _ _ (by simpa using hk)]
    have hm : k % z.size < z.size := Nat.mod_lt _ (Nat.pos_of_ne_zero (by rintro h; simp [h] at hk))
    simp [hk, Array.getElem!_eq_getD, Array.getD, hm]
  · rw [List.getElem?_eq_none (by simp; omega), List.getElem?_eq_none (by rw [repeatL_length]; simp; omega)]
theorem zeroCells_eq (z : Array Value) (n : Nat) : (Builtin.zeroCells z n).toList = repeatL z.toList n := zeros_eq z n

/-- The value is a slice of these rows, whose cells are these. -/
def SrcOK (ν : Nm) (w : World) (v : Value) (sz : Nat) (xs : List (List SV)) (cs : List Value) : Prop :=
  ∃ a cap, v = .slice a xs.length cap ∧ xs.length ≤ cap ∧ Rows sz xs ∧ RelLL ν.free xs cs ∧ (∀ v ∈ cs, v.oneCell' = true) ∧
    (xs.length ≠ 0 → ∃ b o, a = some ⟨b, o, none⟩ ∧ ∀ j v, cs[j]? = some v → w.cell? ⟨b, o + j, none⟩ = some v)

section
variable {P : Program} {x : Ctx} {ν : Nm} {H : Heap} {w : World} {Q : SV → Heap → Nat → Prop}

/-- The first elements of a slice, loaded. -/
theorem SrcOK.first {v : Value} {k sz : Nat} {xs : List (List SV)} {cs : List Value} (h : SrcOK ν w v sz xs cs) (hk : k ≤ xs.length) (w' : World) (hw : w'.heap = w.heap) :
    (Builtin.firstCells sz k v).run P w' = .ok (cs.take (k * sz)).toArray w' := by
  obtain ⟨a, cap, rfl, h2, h3, h4, h5, h6⟩ := h
  have hcl := h4.length h3
  have hle : k * sz ≤ cs.length := by rw [hcl]; exact Nat.mul_le_mul_right _ hk
  have hlen : (cs.take (k * sz)).length = k * sz := by simp; omega
  by_cases hc : xs.length = 0
  · have hk0 : k = 0 := by omega
    subst hk0
    cases a with
    | none => simpa using run_firstCells_none w' sz 0 xs.length cap
    | some b => simpa using run_firstCells_some (P := P) w' sz 0 b xs.length cap [] (by simp) (by simp)
  · obtain ⟨b, o, rfl, hbo⟩ := h6 hc
    refine run_firstCells_some w' sz k ⟨b, o, none⟩ xs.length cap (cs.take (k * sz)) hlen (fun j v hv => ?_)
    have hj := (List.getElem?_eq_some_iff.1 hv).1
    rw [List.getElem?_take_of_lt (by omega)] at hv
    rw [add_eq, cell?_heap (w := w) (by rw [hw])]
    exact hbo j v hv

theorem src_sound {sz : Nat} {s : Option SV} {p : Prop} {xs : List (List SV)} {v : Value} (hH : Holds x ν H w) (hs : ∀ u, s = some u → Rel ν u v) (h : srcS sz H s = some (p, xs)) (hp : p) : ∃ cs, SrcOK ν w v sz xs cs := by
  unfold srcS at h
  split at h
  · simp only [Option.some.injEq, Prod.mk.injEq] at h
    obtain ⟨rfl, rfl⟩ := h
    have := hs _ rfl
    simp only [Rel] at this
    subst this
    exact ⟨[], _, _, rfl, Nat.zero_le _, fun y hy => by simp at hy, rfl, by simp, fun h => absurd rfl h⟩
  · rename_i s' ys
    split at h
    case isFalse => cases h
    rename_i hsz
    subst hsz
    simp only [Option.some.injEq, Prod.mk.injEq] at h
    obtain ⟨rfl, rfl⟩ := h
    have := hs _ rfl
    simp only [Rel] at this
    obtain ⟨a, cap, cs, rfl, h2, h3, h4, h5, h6⟩ := this
    refine ⟨cs, a, cap, rfl, h2, h3, h4, h5, fun hne => ?_⟩
    obtain ⟨b, o, c, rfl, hro, hseg⟩ := h6 hne
    obtain ⟨T, fz, hc⟩ := hH.ro b c hro
    refine ⟨b, o, rfl, fun j v hv => ?_⟩
    rw [cell?_cells hc, hseg j (List.getElem?_eq_some_iff.1 hv).1]; exact hv
  · rename_i id s' off len cap
    split at h
    case isFalse => cases h
    rename_i hsz
    subst hsz
    split at h
    case h_2 => cases h
    rename_i s'' c T ys hb
    split at h
    case isFalse => cases h
    rename_i hsz
    subst hsz
    simp only [Option.some.injEq, Prod.mk.injEq] at h
    obtain ⟨rfl, rfl⟩ := h
    obtain ⟨p1, p2, p3⟩ := hp
    have hv := hs _ rfl
    simp only [Rel] at hv
    obtain ⟨_, a, rfl, ha⟩ := hv
    obtain ⟨_, hnc, hrows, cs, hrel, hones, hrow⟩ := hH.ok id _ hb
    have hlen : ((ys.drop off).take len).length = len := by simp; omega
    have hcl := hrel.length hrows
    have hle : off * s'' + len * s'' ≤ cs.length := by rw [hcl, ← Nat.add_mul]; exact Nat.mul_le_mul_right _ p1
    refine ⟨(cs.drop (off * s'')).take (len * s''), a, cap, by rw [hlen], by rw [hlen]; exact p2, (hrows.drop _).take _, (hrel.drop hrows _).take (hrows.drop _) _, fun v hv => hones v (List.mem_of_mem_drop (List.mem_of_mem_take hv)), fun hne => ?_⟩
    rw [hlen] at hne
    have hcap : 0 < cap := by omega
    obtain ⟨c', hc, _, hseg⟩ := hrow (p3 hcap)
    refine ⟨_, _, ha hcap, fun j v hv => ?_⟩
    have hj := (List.getElem?_eq_some_iff.1 hv).1
    simp only [List.length_take, List.length_drop] at hj
    rw [List.getElem?_take_of_lt (by omega), List.getElem?_drop] at hv
    rw [cell?_cells hc, hseg _ (by omega)]; exact hv
  · cases h

/-- The count and the loading of what is appended. -/
structure AppArg (P : Program) (w : World) (u : TypeId) (x : Value) (i : TypeInfo) (z : Value) (m : Nat) (cs : List Value) : Prop where
  kind : (∃ du, P.underlying u = some (.slice du) ∧ (Builtin.lenOf x).run P w = .ok m w ∧ ∀ w', w'.heap = w.heap → (Builtin.firstCells i.size m x).run P w' = .ok cs.toArray w') ∨
    (∃ k l, ∃ k', P.underlying u = some (.int k) ∧ x = .int k' l ∧ 0 ≤ l ∧ l * i.bytes ≤ 140737488355328 ∧ l ≤ 9223372036854775807 ∧ m = l.toNat ∧ z.cells.size = i.size ∧ cs = repeatL z.cells.toList l.toNat)
  len : cs.length = m * i.size

theorem wrap_i64' {x : Int} (h1 : -9223372036854775808 ≤ x) (h2 : x ≤ 9223372036854775807) : IntKind.i64.wrap x = x := by
  simp only [IntKind.wrap, IntKind.signed, IntKind.bits]
  simp
  omega

theorem run_sizeOf' {T : TypeId} {i : TypeInfo} (h : P.info? T = some i) (w : World) : (sizeOf T).run P w = .ok i.size w := run_sizeOf (by simp [tySize, h]) w
theorem run_typeInfo' {T : TypeId} {i : TypeInfo} (h : P.info? T = some i) (w : World) : (typeInfo T).run P w = .ok i w := by simp [typeInfo, h]
theorem run_zero' {T : TypeId} {i : TypeInfo} {z : Value} (h : P.info? T = some i) (hz : i.zero = some z) (w : World) : (zeroValue T).run P w = .ok z w := by simp [zeroValue, typeInfo, h, hz]
/-- Cells stored behind an address, where there is one. -/
def storeB (base : Option Addr) (o : Nat) (vs : List Value) : Sem Unit := match base with
  | some a => storeCells (a.add o) vs
  | none => pure ()
theorem storeB_nil (base : Option Addr) (o : Nat) (w : World) : (storeB base o []).run P w = .ok () w := by cases base <;> rfl
theorem append_run {t u e ty : TypeId} {y : Value} {i : TypeInfo} {z : Value} {m : Nat} {cs : List Value} (ht : P.underlying t = some (.slice e)) (hi : P.info? e = some i) (hz : i.zero = some z) (hA : AppArg P w u y i z m cs)
    {base : Option Addr} {n cap : Nat} {olds : List Value} (hold : ∀ w', w'.heap = w.heap → (Builtin.firstCells i.size n (.slice base n cap)).run P w' = .ok olds.toArray w')
    (hb : (n + m) * i.bytes ≤ 140737488355328) (hmax : n + m ≤ 9223372036854775807) :
    (n + m ≤ cap → (Builtin.append_ #[t, u] ty #[.slice base n cap, y]).run P w = ((storeB base (n * i.size) cs).run P w).andThen fun _ w' => .ok (.slice base (n + m) cap) w') ∧
    (cap < n + m → ∃ C, n + m ≤ C ∧ (Builtin.append_ #[t, u] ty #[.slice base n cap, y]).run P w =
      .ok (.slice (some ⟨w.heap.size, 0, none⟩) (n + m) C) (w.drew.alloc (.cells (olds.toArray ++ (cs.toArray ++ Builtin.zeroCells z.cells (C - (n + m)))) e))) := by
  have hfit : cap < n + m → ¬ (281474976710656 < Builtin.nextslicecap (n + m) cap * i.bytes) := fun h => by
    have := growslice_fits h hb
    omega
  have h63 : ¬ (9223372036854775807 < (n : Int) + (m : Int)) := by omega
  have hdrew : w.drew.heap = w.heap := rfl
  have hcap : n + m ≤ (Question.appendCap (n + m) cap e).cut (w.tape w.drawn (.appendCap (n + m) cap e)) := by simp [Question.cut]
  rcases hA.kind with ⟨du, hu, hlen, hnews⟩ | ⟨k, l, k', hu, rfl, l0, l1, l2, rfl, hzs, rfl⟩
  · constructor
    · intro hle
      have e1 := hnews w rfl
      cases base with
      | none => simp [Builtin.append_, run_underlying ht, run_underlying hu, run_sizeOf' hi, hlen, hle, e1, storeB]
      | some a => simp [Builtin.append_, run_underlying ht, run_underlying hu, run_sizeOf' hi, hlen, hle, e1, storeB]
    · intro hlt
      refine ⟨_, hcap, ?_⟩
      have e1 := hnews w.drew rfl
      have e2 := hold w.drew rfl
      have hnle : ¬ n + m ≤ cap := by omega
      have hf := hfit hlt
      simp [Builtin.append_, run_underlying ht, run_underlying hu, run_sizeOf' hi, run_typeInfo' hi, run_zero' hi hz, hlen, hnle, e1, e2, h63, hf, newRow, Question.forced]
  · have hwl := wrap_i64' (x := l) (by omega) l2
    have hl0 : ¬ l < 0 := by omega
    have hl48 : ¬ (281474976710656 < l * (i.bytes : Int)) := by omega
    have hz1 : repeatL z.cells.toList l.toNat = (Builtin.zeroCells z.cells l.toNat).toList := by rw [zeroCells_eq]
    have h63' : ¬ (9223372036854775807 < (n : Int) + max l 0) := by omega
    have hdr : (zeroValue e).run P w.drew = .ok z w.drew := run_zero' hi hz _
    rw [hz1]
    by_cases h0 : l.toNat * i.size = 0
    · have hz0 : Builtin.zeroCells z.cells l.toNat = #[] := by
        apply Array.ext'
        rw [zeroCells_eq]
        apply List.eq_nil_of_length_eq_zero
        rw [repeatL_length]
        simpa [hzs] using h0
      rw [hz0]
      constructor
      · intro hle
        cases base with
        | none => simp [Builtin.append_, run_underlying ht, run_underlying hu, run_sizeOf' hi, run_typeInfo' hi, asInt, asIntOf, hwl, hl0, hl48, hle, h0, storeB]
        | some a => simp [Builtin.append_, run_underlying ht, run_underlying hu, run_sizeOf' hi, run_typeInfo' hi, asInt, asIntOf, hwl, hl0, hl48, hle, h0, storeB]
      · intro hlt
        refine ⟨_, hcap, ?_⟩
        have e2 := hold w.drew rfl
        have hnle : ¬ n + l.toNat ≤ cap := by omega
        have hf := hfit hlt
        simp [Builtin.append_, run_underlying ht, run_underlying hu, run_sizeOf' hi, run_typeInfo' hi, run_zero' hi hz, asInt, asIntOf, hwl, hl0, hl48, hnle, e2, h63', hf, newRow, Question.forced, h0]
    · constructor
      · intro hle
        cases base with
        | none => simp [Builtin.append_, run_underlying ht, run_underlying hu, run_sizeOf' hi, run_typeInfo' hi, run_zero' hi hz, asInt, asIntOf, hwl, hl0, hl48, hle, h0, storeB]
        | some a => simp [Builtin.append_, run_underlying ht, run_underlying hu, run_sizeOf' hi, run_typeInfo' hi, run_zero' hi hz, asInt, asIntOf, hwl, hl0, hl48, hle, h0, storeB]
      · intro hlt
        refine ⟨_, hcap, ?_⟩
        have e2 := hold w.drew rfl
        have hnle : ¬ n + l.toNat ≤ cap := by omega
        have hf := hfit hlt
        simp [Builtin.append_, run_underlying ht, run_underlying hu, run_sizeOf' hi, run_typeInfo' hi, run_zero' hi hz, asInt, asIntOf, hwl, hl0, hl48, hnle, e2, h63', hf, newRow, Question.forced, h0]

theorem appNew_sound {t u e ty : TypeId} {y : Value} {i : TypeInfo} {z : Value} {ys : List (List SV)} {p : Prop} {base : Option Addr} (ht : P.underlying t = some (.slice e)) (hi : P.info? e = some i) (hz : i.zero = some z) (hzs : z.cells.size = i.size)
    (hA : p → ∃ cs, AppArg P w u y i z ys.length cs ∧ Rows i.size ys ∧ RelLL ν.free ys cs ∧ ∀ v ∈ cs, v.oneCell' = true) (hH : Holds x ν H w) (hr : R1OK Q (appNew e i.size i.bytes p ys H ν.nx)) :
    OpR P x ν w (do pure (.value (← Builtin.append_ #[t, u] ty #[.slice base 0 0, y]))) Q := by
  unfold appNew at hr
  obtain ⟨⟨hp, hb, hmax⟩, hr⟩ := hr
  have hr : ∀ c, Q (.sl ν.nx i.size 0 ys.length (ys.length + c)) ((ν.nx, .row i.size (ys.length + c) e ys) :: H) (ν.nx + 1) := hr ⟨hp, hb, hmax⟩
  obtain ⟨cs, hA, hrows, hrel, hones⟩ := hA hp
  have hold : ∀ w', w'.heap = w.heap → (Builtin.firstCells i.size 0 (.slice base 0 0)).run P w' = .ok ([] : List Value).toArray w' := by
    intro w' _
    cases base with
    | none => exact run_firstCells_none w' _ 0 0 0
    | some b => exact run_firstCells_some w' i.size 0 b 0 0 [] (by simp) (by simp)
  obtain ⟨r1, r2⟩ := append_run (ty := ty) ht hi hz hA hold (by simpa using hb) (by omega)
  by_cases hm : ys.length = 0
  · have hys : ys = [] := List.eq_nil_of_length_eq_zero hm
    subst hys
    have hcs : cs = [] := hrel
    subst hcs
    have r1 := r1 (Nat.le_refl _)
    refine ⟨.slice base 0 0, w, ν.name 0, .sl ν.nx i.size 0 0 0, _, .inl ?_, Grows.name _ _, hH.nameEmpty, ?_, hr 0⟩
    · rw [storeB_nil] at r1
      simp only [Nat.add_zero, List.length_nil] at r1
      simp [r1]
    · exact ⟨Nat.lt_succ_self _, base, rfl, fun h => by omega⟩
  · obtain ⟨C, hC, r2⟩ := r2 (by omega)
    simp only [Nat.zero_add] at hC r2
    have := hr (C - ys.length)
    rw [show ys.length + (C - ys.length) = C by omega] at this
    have r3 : (do pure (.value (← Builtin.append_ #[t, u] ty #[.slice base 0 0, y])) : Sem Next).run P w = .ok (.value (.slice (some ⟨w.heap.size, 0, none⟩) ys.length C)) (w.drew.alloc (.cells (([] : List Value).toArray ++ (cs.toArray ++ Builtin.zeroCells z.cells (C - ys.length))) e)) := by
      rw [Sem.run_bind, r2]; rfl
    refine ⟨.slice (some ⟨w.heap.size, 0, none⟩) ys.length C, w.drew.alloc (.cells (([] : List Value).toArray ++ (cs.toArray ++ Builtin.zeroCells z.cells (C - ys.length))) e), ν.name w.heap.size, .sl ν.nx i.size 0 ys.length C, _, .inl r3, Grows.name _ _, ?_, ?_, this⟩
    · refine hH.pushRow (cells := ([] : List Value).toArray ++ (cs.toArray ++ Builtin.zeroCells z.cells (C - ys.length))) (zs := (Builtin.zeroCells z.cells (C - ys.length)).toList) hrows hrel hones hC (by simp) ?_ rfl (by exact ⟨rfl, rfl, rfl⟩)
      rw [zeroCells_eq, repeatL_length]; simp [hzs]
    · exact ⟨Nat.lt_succ_self _, _, rfl, fun _ => by simp [Nm.name_blk]⟩

theorem append_sound {t u ty : TypeId} {s q : Option SV} {a b : Value} (hH : Holds x ν H w) (hs : ∀ r, s = some r → Rel ν r a) (hq : ∀ r, q = some r → Rel ν r b)
    (hr : R1OK Q (sAppend (sliceT (P.underlying t)) (obind (tySize P) (sliceT (P.underlying t))) (obind (tyBytes P) (sliceT (P.underlying t))) (obind (tyZero P) (sliceT (P.underlying t))) (P.underlying u) H ν.nx s q)) :
    OpR P x ν w (do pure (.value (← Builtin.append_ #[t, u] ty #[a, b]))) Q := by
  unfold sAppend at hr
  split at hr
  case h_2 => exact hr.elim
  rename_i e sz by' zs he hsz hby hzz
  split at hr
  · exact hr.elim
  rename_i hsz0
  split at hr
  case isFalse => exact hr.elim
  rename_i hzl
  split at hr
  case h_2 => exact hr.elim
  rename_i p ys harg
  have ht : P.underlying t = some (.slice e) := by
    unfold sliceT at he
    split at he
    · rename_i h; simp only [Option.some.injEq] at he; rw [h, he]
    · exact absurd he (by simp)
  rw [he] at hsz hby hzz
  simp only [obind, tySize, tyBytes, tyZero, Option.map_eq_some_iff, Option.bind_eq_some_iff] at hsz hby hzz
  obtain ⟨i, hi, rfl⟩ := hsz
  obtain ⟨i', hi', rfl⟩ := hby
  obtain ⟨z, ⟨i'', hi'', hz⟩, rfl⟩ := hzz
  obtain rfl : i = i' := Option.some.inj (hi.symm.trans hi')
  obtain rfl : i = i'' := Option.some.inj (hi.symm.trans hi'')
  have hzs : z.cells.size = i.size := by simpa using hzl
  have hA : p → ∃ cs, AppArg P w u b i z ys.length cs ∧ Rows i.size ys ∧ RelLL ν.free ys cs ∧ ∀ v ∈ cs, v.oneCell' = true := by
    intro hp
    unfold appArgS at harg
    split at harg
    · rename_i k hu
      unfold zerosS at harg
      split at harg
      · rename_i k' l
        simp only [Option.some.injEq, Prod.mk.injEq] at harg
        obtain ⟨rfl, rfl⟩ := harg
        have := hq _ rfl
        simp only [Rel] at this
        subst this
        refine ⟨repeatL z.cells.toList l.toNat, ⟨.inr ⟨k, l, k', hu, rfl, hp.1, hp.2.1, hp.2.2.1, by simp, hzs, rfl⟩, by rw [repeatL_length]; simp [hzs]⟩, rows_replicate hzl _, relLL_replicate _ _, fun v hv => (List.all_eq_true.1 hp.2.2.2) v (repeatL_mem hv)⟩
      · exact absurd harg (by simp)
    · rename_i e2 hu
      obtain ⟨cs, hsrc⟩ := src_sound hH hq harg hp
      have hf := fun w' hw => hsrc.first (P := P) (Nat.le_refl _) w' hw
      obtain ⟨ba, cap, rfl, h2, h3, h4, h5, h6⟩ := hsrc
      have hcl := h4.length h3
      refine ⟨cs, ⟨.inl ⟨e2, hu, by simp [Builtin.lenOf], fun w' hw => ?_⟩, hcl⟩, h3, h4, h5⟩
      have := hf w' hw
      rwa [List.take_of_length_le (by omega)] at this
    · exact absurd harg (by simp)
  unfold sAppendTo at hr
  split at hr
  · have := hs _ rfl
    simp only [Rel] at this
    subst this
    exact appNew_sound ht hi hz hzs hA hH hr
  · rename_i id s' len cap
    have hsl := hs _ rfl
    split at hr
    case isFalse => exact hr.elim
    rename_i hss
    subst hss
    split at hr
    case h_2 => exact hr.elim
    rename_i s' c T xs hb
    split at hr
    case isFalse => exact hr.elim
    rename_i hss
    subst hss
    split at hr
    case isFalse => exact hr.elim
    rename_i hT
    subst hT
    obtain ⟨⟨hp, hlen, hcap, hbb, hmax⟩, hr⟩ := hr
    have hr2 : ∀ d, Q (.sl ν.nx i.size 0 (len + ys.length) (len + ys.length + d)) ((ν.nx, .row i.size (len + ys.length + d) T (xs.take len ++ ys)) :: H.drop id) (ν.nx + 1) := hr ⟨hp, hlen, hcap, hbb, hmax⟩
    subst hcap
    obtain ⟨cs, hA, hrows, hrel, hones⟩ := hA hp
    obtain ⟨hid, hnc, hxrows, os, hxrel, hxones, hrow⟩ := hH.ok id _ hb
    have hxl := hxrel.length hxrows
    have hcl := hrel.length hrows
    have hle0 : len * i.size ≤ os.length := by rw [hxl]; exact Nat.mul_le_mul_right _ hlen
    have hsl' := hsl
    simp only [Rel] at hsl'
    obtain ⟨_, base, rfl, hbase⟩ := hsl'
    have hnew : RelLL ν.free (xs.take len ++ ys) (os.take (len * i.size) ++ cs) := (hxrel.take hxrows len).append hrel
    have hnrows : Rows i.size (xs.take len ++ ys) := (hxrows.take _).append hrows
    have hnones : ∀ v ∈ os.take (len * i.size) ++ cs, v.oneCell' = true := fun v hv => (List.mem_append.1 hv).elim (fun h => hxones v (List.mem_of_mem_take h)) (hones v)
    have hnl : (xs.take len ++ ys).length = len + ys.length := by simp; omega
    have holdl : (os.take (len * i.size)).length = len * i.size := by simp; omega
    have hold : ∀ w', w'.heap = w.heap → (Builtin.firstCells i.size len (.slice base len cap)).run P w' = .ok (os.take (len * i.size)).toArray w' := fun w' hw => by
      by_cases hc0 : cap = 0
      · have hl0 : len = 0 := by omega
        subst hl0
        cases base with
        | none => simpa using run_firstCells_none w' i.size 0 0 cap
        | some b => simpa using run_firstCells_some (P := P) w' i.size 0 b 0 cap [] (by simp) (by simp)
      · obtain ⟨c', h1, h2, h3⟩ := hrow hc0
        have hb0 := hbase (by omega)
        simp only [Nat.zero_mul] at hb0
        subst hb0
        refine run_firstCells_some w' i.size len _ len cap (os.take (len * i.size)) holdl (fun j v hv => ?_)
        have hj := (List.getElem?_eq_some_iff.1 hv).1
        rw [List.getElem?_take_of_lt (by omega)] at hv
        rw [add_eq, cell?_heap (w := w) (by rw [hw]), cell?_cells h1, Nat.zero_add, h3 j (by omega)]; exact hv
    obtain ⟨r1, r2⟩ := append_run (ty := ty) ht hi hz hA hold hbb hmax
    have hH1 : Holds x ν (H.drop id) w := hH.less fun k b' hk => by
      rw [Heap.get_drop] at hk
      split at hk
      · exact absurd hk (by simp)
      · exact hk
    by_cases hle : len + ys.length ≤ cap
    · have r1 := r1 hle
      by_cases hc0 : cap = 0
      · subst hc0
        have hl0 : len = 0 := by omega
        have hm0 : ys = [] := List.eq_nil_of_length_eq_zero (by omega)
        subst hl0 hm0
        have hcs : cs = [] := hrel
        subst hcs
        rw [storeB_nil] at r1
        exact ⟨.slice base 0 0, w, ν.name 0, .sl ν.nx i.size 0 0 0, _, .inl (by simp only [Sem.run_bind, r1, Result.andThen_ok]; rfl), Grows.name _ _, hH1.nameEmpty, ⟨Nat.lt_succ_self _, base, rfl, fun h => by omega⟩, hr2 0⟩
      · obtain ⟨cc, h1, h2, h3⟩ := hrow hc0
        have hb0 := hbase (by omega)
        simp only [Nat.zero_mul] at hb0
        subst hb0
        have hmul : len * i.size + ys.length * i.size ≤ cc.size := by
          rw [h2, ← Nat.add_mul]; exact Nat.mul_le_mul_right _ hle
        have hst := run_storeCells_at (P := P) (ν.blk id) (len * i.size) T cs 0 cc w h1 (by omega) hones
        simp only [Nat.add_zero] at hst
        simp only [storeB, add_eq, Nat.zero_add, hst, Result.andThen_ok] at r1
        have := hr2 (cap - (len + ys.length))
        rw [show len + ys.length + (cap - (len + ys.length)) = cap by omega] at this
        have r3 : (do pure (.value (← Builtin.append_ #[t, u] ty #[.slice (some ⟨ν.blk id, 0, none⟩) len cap, b])) : Sem Next).run P w = .ok (.value (.slice (some ⟨ν.blk id, 0, none⟩) (len + ys.length) cap)) (w.setRow (ν.blk id) (cc.toList.take (len * i.size) ++ cs ++ cc.toList.drop (len * i.size + cs.length)).toArray) := by
          rw [Sem.run_bind, r1]; rfl
        refine ⟨_, _, ν.name (ν.blk id), .sl ν.nx i.size 0 (len + ys.length) cap, _, .inl r3, Grows.name _ _, ?_, ?_, this⟩
        · refine hH.move hb hc0 (fun k hk => setRow_other _ _ _ _ hk) (by simp) (fix_setRow _ _ _) ⟨Nat.lt_succ_self _, by rw [hnl]; exact hle, hnrows, _, hnew.grows (Grows.name _ _).free, hnones, fun _ => ⟨(cc.toList.take (len * i.size) ++ cs ++ cc.toList.drop (len * i.size + cs.length)).toArray, ?_, ?_, fun j hj => ?_⟩⟩
          · rw [Nm.name_blk]; exact setRow_heap w _ _ _ _ _ h1
          · simp only [List.size_toArray, List.length_append, List.length_take, List.length_drop, Array.length_toList]
            omega
          · have hsp := splice_get cc.toList cs (len * i.size) j (by rw [hcl]; simpa using hmul)
            simp only [List.getElem?_toArray, hsp]
            simp only [List.length_append, holdl] at hj
            by_cases hjl : j < len * i.size
            · rw [if_neg (by omega), List.getElem?_append_left (by omega), List.getElem?_take_of_lt hjl, ← h3 j (by omega)]
              simp
            · rw [if_pos (by omega), List.getElem?_append_right (by omega), holdl]
        · refine ⟨Nat.lt_succ_self _, _, rfl, fun _ => by simp [Nm.name_blk]⟩
    · obtain ⟨C, hC, r2⟩ := r2 (by omega)
      have := hr2 (C - (len + ys.length))
      rw [show len + ys.length + (C - (len + ys.length)) = C by omega] at this
      have r3 : (do pure (.value (← Builtin.append_ #[t, u] ty #[.slice base len cap, b])) : Sem Next).run P w = .ok (.value (.slice (some ⟨w.heap.size, 0, none⟩) (len + ys.length) C)) (w.drew.alloc (.cells ((os.take (len * i.size)).toArray ++ (cs.toArray ++ Builtin.zeroCells z.cells (C - (len + ys.length)))) T)) := by
        rw [Sem.run_bind, r2]; rfl
      refine ⟨_, w.drew.alloc (.cells ((os.take (len * i.size)).toArray ++ (cs.toArray ++ Builtin.zeroCells z.cells (C - (len + ys.length)))) T), ν.name w.heap.size, .sl ν.nx i.size 0 (len + ys.length) C, _, .inl r3, Grows.name _ _, ?_, ?_, this⟩
      · refine hH1.pushRow (cells := (os.take (len * i.size)).toArray ++ (cs.toArray ++ Builtin.zeroCells z.cells (C - (len + ys.length)))) (zs := (Builtin.zeroCells z.cells (C - (len + ys.length))).toList) hnrows hnew hnones (by rw [hnl]; exact hC) ?_ ?_ rfl ⟨rfl, rfl, rfl⟩
        · simp
        · rw [zeroCells_eq, repeatL_length, hnl]; simp [hzs]
      · exact ⟨Nat.lt_succ_self _, _, rfl, fun _ => by simp [Nm.name_blk]⟩
  · exact hr.elim
theorem append_soundC {t u ty : TypeId} {s q : Option SV} {a b : Value} (hH : Holds x ν H w) (hs : ∀ r, s = some r → Rel ν r a) (hq : ∀ r, q = some r → Rel ν r b)
    (hr : R1OK Q (sAppendC (sliceT (P.underlying t)) (obind (tySize P) (sliceT (P.underlying t))) (obind (tyBytes P) (sliceT (P.underlying t))) (obind (tyZero P) (sliceT (P.underlying t))) (P.underlying u) H ν.nx s q)) :
    OpR P x ν w (do pure (.value (← Builtin.append_ #[t, u] ty #[a, b]))) Q := by
  unfold sAppendC at hr
  split at hr
  case h_2 => exact hr.elim
  rename_i e sz by' zs he hsz hby hzz
  split at hr
  · exact hr.elim
  rename_i hsz0
  split at hr
  case isFalse => exact hr.elim
  rename_i hzl
  split at hr
  case h_2 => exact hr.elim
  rename_i p ys harg
  have ht : P.underlying t = some (.slice e) := by
    unfold sliceT at he
    split at he
    · rename_i h; simp only [Option.some.injEq] at he; rw [h, he]
    · exact absurd he (by simp)
  rw [he] at hsz hby hzz
  simp only [obind, tySize, tyBytes, tyZero, Option.map_eq_some_iff, Option.bind_eq_some_iff] at hsz hby hzz
  obtain ⟨i, hi, rfl⟩ := hsz
  obtain ⟨i', hi', rfl⟩ := hby
  obtain ⟨z, ⟨i'', hi'', hz⟩, rfl⟩ := hzz
  obtain rfl : i = i' := Option.some.inj (hi.symm.trans hi')
  obtain rfl : i = i'' := Option.some.inj (hi.symm.trans hi'')
  have hzs : z.cells.size = i.size := by simpa using hzl
  have hA : p → ∃ cs, AppArg P w u b i z ys.length cs ∧ Rows i.size ys ∧ RelLL ν.free ys cs ∧ ∀ v ∈ cs, v.oneCell' = true := by
    intro hp
    unfold appArgS at harg
    split at harg
    · rename_i k hu
      unfold zerosS at harg
      split at harg
      · rename_i k' l
        simp only [Option.some.injEq, Prod.mk.injEq] at harg
        obtain ⟨rfl, rfl⟩ := harg
        have := hq _ rfl
        simp only [Rel] at this
        subst this
        refine ⟨repeatL z.cells.toList l.toNat, ⟨.inr ⟨k, l, k', hu, rfl, hp.1, hp.2.1, hp.2.2.1, by simp, hzs, rfl⟩, by rw [repeatL_length]; simp [hzs]⟩, rows_replicate hzl _, relLL_replicate _ _, fun v hv => (List.all_eq_true.1 hp.2.2.2) v (repeatL_mem hv)⟩
      · exact absurd harg (by simp)
    · rename_i e2 hu
      obtain ⟨cs, hsrc⟩ := src_sound hH hq harg hp
      have hf := fun w' hw => hsrc.first (P := P) (Nat.le_refl _) w' hw
      obtain ⟨ba, cap, rfl, h2, h3, h4, h5, h6⟩ := hsrc
      have hcl := h4.length h3
      refine ⟨cs, ⟨.inl ⟨e2, hu, by simp [Builtin.lenOf], fun w' hw => ?_⟩, hcl⟩, h3, h4, h5⟩
      have := hf w' hw
      rwa [List.take_of_length_le (by omega)] at this
    · exact absurd harg (by simp)
  unfold sAppendToC at hr
  split at hr
  · rename_i id s' len cap
    have hsl := hs _ rfl
    split at hr
    case isFalse => exact hr.elim
    rename_i hss
    subst hss
    split at hr
    case h_2 => exact hr.elim
    rename_i s' c T xs hb
    split at hr
    case isFalse => exact hr.elim
    rename_i hss
    subst hss
    split at hr
    case isFalse => exact hr.elim
    rename_i hT
    subst hT
    obtain ⟨⟨hp, hlen, hcap, hbb, hmax⟩, hr⟩ := hr
    have hr2c : ∀ d, Q (.sl ν.nx i.size 0 (len + ys.length) (max cap (len + ys.length + d))) ((ν.nx, .row i.size (max cap (len + ys.length + d)) T (xs.take len ++ ys)) :: H.drop id) (ν.nx + 1) := hr ⟨hp, hlen, hcap, hbb, hmax⟩
    have hr2 : ∀ d, cap ≤ len + ys.length + d → Q (.sl ν.nx i.size 0 (len + ys.length) (len + ys.length + d)) ((ν.nx, .row i.size (len + ys.length + d) T (xs.take len ++ ys)) :: H.drop id) (ν.nx + 1) := fun d hd => by have := hr2c d; rwa [Nat.max_eq_right hd] at this
    subst hcap
    obtain ⟨cs, hA, hrows, hrel, hones⟩ := hA hp
    obtain ⟨hid, hnc, hxrows, os, hxrel, hxones, hrow⟩ := hH.ok id _ hb
    have hxl := hxrel.length hxrows
    have hcl := hrel.length hrows
    have hle0 : len * i.size ≤ os.length := by rw [hxl]; exact Nat.mul_le_mul_right _ hlen
    have hsl' := hsl
    simp only [Rel] at hsl'
    obtain ⟨_, base, rfl, hbase⟩ := hsl'
    have hnew : RelLL ν.free (xs.take len ++ ys) (os.take (len * i.size) ++ cs) := (hxrel.take hxrows len).append hrel
    have hnrows : Rows i.size (xs.take len ++ ys) := (hxrows.take _).append hrows
    have hnones : ∀ v ∈ os.take (len * i.size) ++ cs, v.oneCell' = true := fun v hv => (List.mem_append.1 hv).elim (fun h => hxones v (List.mem_of_mem_take h)) (hones v)
    have hnl : (xs.take len ++ ys).length = len + ys.length := by simp; omega
    have holdl : (os.take (len * i.size)).length = len * i.size := by simp; omega
    have hold : ∀ w', w'.heap = w.heap → (Builtin.firstCells i.size len (.slice base len cap)).run P w' = .ok (os.take (len * i.size)).toArray w' := fun w' hw => by
      by_cases hc0 : cap = 0
      · have hl0 : len = 0 := by omega
        subst hl0
        cases base with
        | none => simpa using run_firstCells_none w' i.size 0 0 cap
        | some b => simpa using run_firstCells_some (P := P) w' i.size 0 b 0 cap [] (by simp) (by simp)
      · obtain ⟨c', h1, h2, h3⟩ := hrow hc0
        have hb0 := hbase (by omega)
        simp only [Nat.zero_mul] at hb0
        subst hb0
        refine run_firstCells_some w' i.size len _ len cap (os.take (len * i.size)) holdl (fun j v hv => ?_)
        have hj := (List.getElem?_eq_some_iff.1 hv).1
        rw [List.getElem?_take_of_lt (by omega)] at hv
        rw [add_eq, cell?_heap (w := w) (by rw [hw]), cell?_cells h1, Nat.zero_add, h3 j (by omega)]; exact hv
    obtain ⟨r1, r2⟩ := append_run (ty := ty) ht hi hz hA hold hbb hmax
    have hH1 : Holds x ν (H.drop id) w := hH.less fun k b' hk => by
      rw [Heap.get_drop] at hk
      split at hk
      · exact absurd hk (by simp)
      · exact hk
    by_cases hle : len + ys.length ≤ cap
    · have r1 := r1 hle
      by_cases hc0 : cap = 0
      · subst hc0
        have hl0 : len = 0 := by omega
        have hm0 : ys = [] := List.eq_nil_of_length_eq_zero (by omega)
        subst hl0 hm0
        have hcs : cs = [] := hrel
        subst hcs
        rw [storeB_nil] at r1
        exact ⟨.slice base 0 0, w, ν.name 0, .sl ν.nx i.size 0 0 0, _, .inl (by simp only [Sem.run_bind, r1, Result.andThen_ok]; rfl), Grows.name _ _, hH1.nameEmpty, ⟨Nat.lt_succ_self _, base, rfl, fun h => by omega⟩, hr2 0 (by omega)⟩
      · obtain ⟨cc, h1, h2, h3⟩ := hrow hc0
        have hb0 := hbase (by omega)
        simp only [Nat.zero_mul] at hb0
        subst hb0
        have hmul : len * i.size + ys.length * i.size ≤ cc.size := by
          rw [h2, ← Nat.add_mul]; exact Nat.mul_le_mul_right _ hle
        have hst := run_storeCells_at (P := P) (ν.blk id) (len * i.size) T cs 0 cc w h1 (by omega) hones
        simp only [Nat.add_zero] at hst
        simp only [storeB, add_eq, Nat.zero_add, hst, Result.andThen_ok] at r1
        have := hr2 (cap - (len + ys.length)) (by omega)
        rw [show len + ys.length + (cap - (len + ys.length)) = cap by omega] at this
        have r3 : (do pure (.value (← Builtin.append_ #[t, u] ty #[.slice (some ⟨ν.blk id, 0, none⟩) len cap, b])) : Sem Next).run P w = .ok (.value (.slice (some ⟨ν.blk id, 0, none⟩) (len + ys.length) cap)) (w.setRow (ν.blk id) (cc.toList.take (len * i.size) ++ cs ++ cc.toList.drop (len * i.size + cs.length)).toArray) := by
          rw [Sem.run_bind, r1]; rfl
        refine ⟨_, _, ν.name (ν.blk id), .sl ν.nx i.size 0 (len + ys.length) cap, _, .inl r3, Grows.name _ _, ?_, ?_, this⟩
        · refine hH.move hb hc0 (fun k hk => setRow_other _ _ _ _ hk) (by simp) (fix_setRow _ _ _) ⟨Nat.lt_succ_self _, by rw [hnl]; exact hle, hnrows, _, hnew.grows (Grows.name _ _).free, hnones, fun _ => ⟨(cc.toList.take (len * i.size) ++ cs ++ cc.toList.drop (len * i.size + cs.length)).toArray, ?_, ?_, fun j hj => ?_⟩⟩
          · rw [Nm.name_blk]; exact setRow_heap w _ _ _ _ _ h1
          · simp only [List.size_toArray, List.length_append, List.length_take, List.length_drop, Array.length_toList]
            omega
          · have hsp := splice_get cc.toList cs (len * i.size) j (by rw [hcl]; simpa using hmul)
            simp only [List.getElem?_toArray, hsp]
            simp only [List.length_append, holdl] at hj
            by_cases hjl : j < len * i.size
            · rw [if_neg (by omega), List.getElem?_append_left (by omega), List.getElem?_take_of_lt hjl, ← h3 j (by omega)]
              simp
            · rw [if_pos (by omega), List.getElem?_append_right (by omega), holdl]
        · refine ⟨Nat.lt_succ_self _, _, rfl, fun _ => by simp [Nm.name_blk]⟩
    · obtain ⟨C, hC, r2⟩ := r2 (by omega)
      have := hr2 (C - (len + ys.length)) (by omega)
      rw [show len + ys.length + (C - (len + ys.length)) = C by omega] at this
      have r3 : (do pure (.value (← Builtin.append_ #[t, u] ty #[.slice base len cap, b])) : Sem Next).run P w = .ok (.value (.slice (some ⟨w.heap.size, 0, none⟩) (len + ys.length) C)) (w.drew.alloc (.cells ((os.take (len * i.size)).toArray ++ (cs.toArray ++ Builtin.zeroCells z.cells (C - (len + ys.length)))) T)) := by
        rw [Sem.run_bind, r2]; rfl
      refine ⟨_, w.drew.alloc (.cells ((os.take (len * i.size)).toArray ++ (cs.toArray ++ Builtin.zeroCells z.cells (C - (len + ys.length)))) T), ν.name w.heap.size, .sl ν.nx i.size 0 (len + ys.length) C, _, .inl r3, Grows.name _ _, ?_, ?_, this⟩
      · refine hH1.pushRow (cells := (os.take (len * i.size)).toArray ++ (cs.toArray ++ Builtin.zeroCells z.cells (C - (len + ys.length)))) (zs := (Builtin.zeroCells z.cells (C - (len + ys.length))).toList) hnrows hnew hnones (by rw [hnl]; exact hC) ?_ ?_ rfl ⟨rfl, rfl, rfl⟩
        · simp
        · rw [zeroCells_eq, repeatL_length, hnl]; simp [hzs]
      · exact ⟨Nat.lt_succ_self _, _, rfl, fun _ => by simp [Nm.name_blk]⟩
  · exact hr.elim
end
end Go.Sy
namespace Go.Sy
open Go
set_option linter.unusedSimpArgs false
set_option linter.unusedVariables false

section
variable {P : Program} {x : Ctx} {ν : Nm} {H : Heap} {w : World} {Q : SV → Heap → Nat → Prop}

theorem sliceT_eq {d : Option TypeDesc} {e : TypeId} (h : sliceT d = some e) : d = some (.slice e) := by
  unfold sliceT at h
  split at h
  · simp only [Option.some.injEq] at h; rw [h]
  · exact absurd h (by simp)

theorem copy_sound {t u ty : TypeId} {s q : Option SV} {a b : Value} (hH : Holds x ν H w) (hs : ∀ r, s = some r → Rel ν r a) (hq : ∀ r, q = some r → Rel ν r b)
    (hr : R1OK Q (sCopy (sliceT (P.underlying t)) (obind (tySize P) (sliceT (P.underlying t))) H ν.nx s q)) :
    OpR P x ν w (do pure (.value (← Builtin.copy_ #[t, u] ty #[a, b]))) Q := by
  unfold sCopy at hr
  split at hr
  case h_2 => exact hr.elim
  rename_i e sz he hsz
  split at hr
  · exact hr.elim
  rename_i hsz0
  split at hr
  case h_2 => exact hr.elim
  rename_i p ys hsrc
  split at hr
  case h_2 => exact hr.elim
  rename_i id s' off len cap
  split at hr
  case isFalse => exact hr.elim
  rename_i hss
  subst hss
  split at hr
  case h_2 => exact hr.elim
  rename_i s'' c T xs hb
  split at hr
  case isFalse => exact hr.elim
  rename_i hss
  subst hss
  obtain ⟨⟨hp, hon, hlc, hcc⟩, hr⟩ := hr
  have hr2 : Q (.v (.int .i64 (min ys.length len : Nat))) (H.set id (.row s'' c T (xs.take off ++ (ys.take len ++ xs.drop (off + min ys.length len))))) ν.nx := hr ⟨hp, hon, hlc, hcc⟩
  clear hr
  have ht := sliceT_eq he
  rw [he] at hsz
  obtain ⟨cs, hsrc⟩ := src_sound hH hq hsrc hp
  have hk : min ys.length len ≤ ys.length := Nat.min_le_left _ _
  have hkl : min ys.length len ≤ len := Nat.min_le_right _ _
  have hmin : Nat.min ys.length len = min ys.length len := rfl
  have htk : ys.take len = ys.take (min ys.length len) := by
    rcases Nat.le_total ys.length len with h | h
    · rw [Nat.min_eq_left h, List.take_of_length_le h, List.take_length]
    · rw [Nat.min_eq_right h]
  rw [htk] at hr2
  generalize min ys.length len = q at hr2 hk hkl hmin
  have hfc := hsrc.first (P := P) hk w rfl
  have hlen : (Builtin.lenOf b).run P w = .ok ys.length w := by
    obtain ⟨ba, cap', rfl, _⟩ := hsrc
    simp [Builtin.lenOf]
  obtain ⟨ba, bcap, _, _, yrows, yrel, yones, _⟩ := hsrc
  have hyl := yrel.length yrows
  obtain ⟨hid, hnc, hrows, os, hrel, hones, hrw⟩ := hH.ok id _ hb
  have hxl := hrel.length hrows
  have hsl := hs _ rfl
  simp only [Rel] at hsl
  obtain ⟨_, base, rfl, hbase⟩ := hsl
  have hqle : q * s'' ≤ cs.length := by rw [hyl]; exact Nat.mul_le_mul_right _ hk
  have hrun : ∀ w', (storeB base 0 (cs.take (q * s''))).run P w = .ok () w' → (do pure (.value (← Builtin.copy_ #[t, u] ty #[.slice base len cap, b])) : Sem Next).run P w = .ok (.value (.int .i64 (q : Nat))) w' := by
    intro w' hst
    cases base with
    | none =>
      have hw : w = w' := by simpa [storeB] using hst
      subst hw
      simp [Builtin.copy_, run_underlying ht, run_sizeOf hsz, hlen, hfc, goInt, hmin]
    | some a =>
      have hst' : (storeCells a (cs.take (q * s''))).run P w = .ok () w' := by simpa [storeB, Addr.add] using hst
      simp [Builtin.copy_, run_underlying ht, run_sizeOf hsz, hlen, hfc, goInt, hmin, hst']
  by_cases hk0 : q = 0
  · subst hk0
    refine ⟨_, w, ν, _, _, .inl (hrun w (by simp only [Nat.zero_mul, List.take_zero]; exact storeB_nil _ _ _)), .refl _, ?_, rel_v, hr2⟩
    refine hH.less fun i b' hi => ?_
    rw [Heap.get_set] at hi
    split at hi
    · rename_i e; subst e
      simp only [hb, Option.map_some, Option.some.injEq] at hi
      rw [hb, ← hi]
      simp
    · exact hi
  · have hcap : 0 < cap := by omega
    obtain ⟨cc, h1, h2, h3⟩ := hrw (hcc hcap)
    have hb0 := hbase hcap
    subst hb0
    have hmul : off * s'' + q * s'' ≤ os.length := by
      rw [hxl, ← Nat.add_mul]; exact Nat.mul_le_mul_right _ (by omega)
    have hmul2 : xs.length * s'' ≤ c * s'' := Nat.mul_le_mul_right _ hnc
    have hfl : (cs.take (q * s'')).length = q * s'' := by simp; omega
    have hst := run_storeCells_at (P := P) (ν.blk id) (off * s'') T (cs.take (q * s'')) 0 cc w h1 (by omega) (fun v hv => yones v (List.mem_of_mem_take hv))
    simp only [Nat.add_zero] at hst
    have hnewl : (xs.take off ++ (ys.take q ++ xs.drop (off + q))).length = xs.length := by simp; omega
    have eoq : (off + q) * s'' = off * s'' + q * s'' := Nat.add_mul _ _ _
    refine ⟨_, w.setRow (ν.blk id) (cc.toList.take (off * s'') ++ cs.take (q * s'') ++ cc.toList.drop (off * s'' + (cs.take (q * s'')).length)).toArray, ν, _, _, .inl (hrun _ (by simp only [storeB, add_eq, Nat.add_zero]; exact hst)), .refl _, ?_, rel_v, hr2⟩
    refine hH.write hb (hcc hcap) (fun k hk => setRow_other _ _ _ _ hk) (by simp) (fix_setRow _ _ _) ⟨hid, by rw [hnewl]; exact hnc, (hrows.take _).append ((yrows.take _).append (hrows.drop _)), _, (hrel.take hrows _).append ((yrel.take yrows _).append (hrel.drop hrows _)), fun v hv => ?_, fun hcx => ⟨(cc.toList.take (off * s'') ++ cs.take (q * s'') ++ cc.toList.drop (off * s'' + (cs.take (q * s'')).length)).toArray, setRow_heap w _ _ _ _ _ h1, ?_, fun j hj => ?_⟩⟩
    · simp only [List.mem_append] at hv
      rcases hv with hv | hv | hv
      · exact hones v (List.mem_of_mem_take hv)
      · exact yones v (List.mem_of_mem_take hv)
      · exact hones v (List.mem_of_mem_drop hv)
    · simp only [List.size_toArray, List.length_append, List.length_take, List.length_drop, Array.length_toList]
      omega
    · have hsp := splice_get cc.toList (cs.take (q * s'')) (off * s'') j (by rw [hfl]; simp; omega)
      have hsp2 := splice_get os (cs.take (q * s'')) (off * s'') j (by rw [hfl]; exact hmul)
      rw [eoq, ← List.append_assoc]
      rw [eoq, ← List.append_assoc] at hj
      simp only [List.getElem?_toArray, hsp]
      rw [hfl] at hsp2 ⊢
      rw [hsp2]
      split
      · rfl
      · rw [← h3 j (by simp only [List.length_append, List.length_take, List.length_drop] at hj; omega)]; simp

theorem makeSlice_sound {t : TypeId} {s q : Option SV} {a b : Value} (hH : Holds x ν H w) (hs : ∀ r, s = some r → Rel ν r a) (hq : ∀ r, q = some r → Rel ν r b)
    (hr : R1OK Q (sMakeSlice (sliceT (P.underlying t)) (obind (tySize P) (sliceT (P.underlying t))) (obind (tyBytes P) (sliceT (P.underlying t))) (obind (tyZero P) (sliceT (P.underlying t))) H ν.nx s q)) :
    OpR P x ν w (do pure (.value (← Instr.makeSlice t a b))) Q := by
  unfold sMakeSlice at hr
  split at hr
  case h_2 => exact hr.elim
  rename_i k1 l k2 c
  split at hr
  case h_2 => exact hr.elim
  rename_i e sz by' zs he hsz hby hzz
  split at hr
  case isFalse => exact hr.elim
  rename_i hzl
  obtain ⟨⟨h1, h2, h3, h4, h5⟩, hr⟩ := hr
  have hr2 : Q (.sl ν.nx sz 0 l.toNat c.toNat) ((ν.nx, .row sz c.toNat e (List.replicate l.toNat (svs zs))) :: H) (ν.nx + 1) := hr ⟨h1, h2, h3, h4, h5⟩
  clear hr
  have ha := hs _ rfl
  have hb := hq _ rfl
  simp only [Rel] at ha hb
  subst ha; subst hb
  have ht := sliceT_eq he
  rw [he] at hsz hby hzz
  simp only [obind, tySize, tyBytes, tyZero, Option.map_eq_some_iff, Option.bind_eq_some_iff] at hsz hby hzz
  obtain ⟨i, hi, rfl⟩ := hsz
  obtain ⟨i', hi', rfl⟩ := hby
  obtain ⟨z, ⟨i'', hi'', hz⟩, rfl⟩ := hzz
  obtain rfl : i = i' := Option.some.inj (hi.symm.trans hi')
  obtain rfl : i = i'' := Option.some.inj (hi.symm.trans hi'')
  have hzs : z.cells.size = i.size := by simpa using hzl
  have hwl := wrap_i64' (x := l) (by omega) (by omega)
  have hwc := wrap_i64' (x := c) (by omega) h3
  have hc0 : ¬ c < 0 := by omega
  have hl0 : ¬ l < 0 := by omega
  have hlc : ¬ l > c := by omega
  have h48 : ¬ (281474976710656 < (i.bytes : Int) * c) := by omega
  have hcells : ((Array.range (c.toNat * i.size)).map (z.cells[· % z.cells.size]!)).toList = repeatL z.cells.toList c.toNat := by
    have := zeros_eq z.cells c.toNat
    rw [hzs] at this ⊢
    exact this
  have hrun : (do pure (.value (← Instr.makeSlice t (.int k1 l) (.int k2 c))) : Sem Next).run P w =
      .ok (.value (.slice (some ⟨w.heap.size, 0, none⟩) l.toNat c.toNat)) (w.alloc (.cells ((Array.range (c.toNat * i.size)).map (z.cells[· % z.cells.size]!)) e)) := by
    by_cases h0 : c.toNat * i.size = 0
    · have h01 : (Array.range (c.toNat * i.size)).map (z.cells[· % z.cells.size]!) = #[] := by rw [h0]; simp
      rw [h01]
      simp [Instr.makeSlice, run_underlying ht, asInt, asIntOf, run_typeInfo' hi, hwl, hwc, hc0, hl0, Int.not_lt.2 h2, h48, run_sizeOf' hi, h0, newRow]
      congr 2
      apply Array.ext'
      simp
    · simp [Instr.makeSlice, run_underlying ht, asInt, asIntOf, run_typeInfo' hi, hwl, hwc, hc0, hl0, Int.not_lt.2 h2, h48, run_sizeOf' hi, run_zero' hi hz, h0, newRow]
  have hsplit : repeatL z.cells.toList c.toNat = repeatL z.cells.toList l.toNat ++ repeatL z.cells.toList (c.toNat - l.toNat) := by
    have : ∀ (n m : Nat), repeatL z.cells.toList (n + m) = repeatL z.cells.toList n ++ repeatL z.cells.toList m := by
      intro n m
      induction n with
      | zero => simp [repeatL]
      | succ n ih => rw [Nat.succ_add]; simp only [repeatL, ih, List.append_assoc]
    rw [← this]; congr 1; omega
  refine ⟨_, _, ν.name w.heap.size, .sl ν.nx i.size 0 l.toNat c.toNat, _, .inl hrun, Grows.name _ _, ?_, ?_, hr2⟩
  · refine hH.pushRow (ys := repeatL z.cells.toList l.toNat) (zs := repeatL z.cells.toList (c.toNat - l.toNat)) (rows_replicate hzl _) (relLL_replicate _ _) (fun v hv => (List.all_eq_true.1 h5) v (repeatL_mem hv)) (by simp; omega) (by rw [hcells, hsplit]) (by rw [repeatL_length]; simp [hzs]) rfl ⟨rfl, rfl, rfl⟩
  · exact ⟨Nat.lt_succ_self _, _, rfl, fun _ => by simp [Nm.name_blk]⟩

theorem min2_eq (a b : Int) : (if b < a then b else a) = min a b := by split <;> omega
theorem max2_eq (a b : Int) : (if b > a then b else a) = max a b := by split <;> omega
theorem minMax_sound {mx : Bool} {ss : List (Option SV)} {vs : List Value} {tys : Array TypeId} {ty : TypeId} (hs : ss.length = vs.length ∧ ∀ (i : Nat) s, ss[i]? = some (some s) → ∃ v, vs[i]? = some v ∧ Rel ν s v) (hr : R1OK Q (sMinMax mx H ν.nx ss)) :
    OpQ P ν w (do pure (.value (← (if mx then Builtin.max_ tys ty vs.toArray else Builtin.min_ tys ty vs.toArray)))) fun s => Q s H ν.nx := by
  unfold sMinMax at hr
  split at hr
  · rename_i k a k' b
    obtain ⟨hl, hs⟩ := hs
    obtain ⟨v, h1, h2⟩ := hs 0 _ rfl
    obtain ⟨u, h3, h4⟩ := hs 1 _ rfl
    simp only [Rel] at h2 h4
    subst h2; subst h4
    match vs, hl, h1, h3 with
    | [v, u], _, h1, h3 =>
      simp at h1 h3
      subst h1; subst h3
      cases mx with
      | true => exact .same (v := .int k (max a b)) (by simp [Builtin.max_, Builtin.max2, ← max2_eq]) rel_v hr
      | false => exact .same (v := .int k (min a b)) (by simp [Builtin.min_, Builtin.min2, ← min2_eq]) rel_v hr
  · rename_i k a k' b k'' c
    obtain ⟨hl, hs⟩ := hs
    obtain ⟨v, h1, h2⟩ := hs 0 _ rfl
    obtain ⟨u, h3, h4⟩ := hs 1 _ rfl
    obtain ⟨z, h5, h6⟩ := hs 2 _ rfl
    simp only [Rel] at h2 h4 h6
    subst h2; subst h4; subst h6
    match vs, hl, h1, h3, h5 with
    | [v, u, z], _, h1, h3, h5 =>
      simp at h1 h3 h5
      subst h1; subst h3; subst h5
      cases mx with
      | true => exact .same (v := .int k (max (max a b) c)) (by simp [Builtin.max_, Builtin.max2, ← max2_eq]) rel_v hr
      | false => exact .same (v := .int k (min (min a b) c)) (by simp [Builtin.min_, Builtin.min2, ← min2_eq]) rel_v hr
  · exact hr.elim

theorem clear_sound {t ty : TypeId} {s : Option SV} {a : Value} (hH : Holds x ν H w) (hs : ∀ r, s = some r → Rel ν r a)
    (hr : R1OK Q (sClear (sliceT (P.underlying t)) (obind (tySize P) (sliceT (P.underlying t))) (obind (tyZero P) (sliceT (P.underlying t))) H ν.nx s)) :
    OpR P x ν w (do pure (.value (← Builtin.clear_ #[t] ty #[a]))) Q := by
  unfold sClear at hr
  split at hr
  case h_2 => exact hr.elim
  rename_i id s' off len cap
  split at hr
  case h_2 => exact hr.elim
  rename_i e sz zs he hsz hzz
  split at hr
  case isFalse => exact hr.elim
  rename_i hss
  subst hss
  split at hr
  case h_2 => exact hr.elim
  rename_i s'' c T xs hb
  split at hr
  case isFalse => exact hr.elim
  rename_i hss
  subst hss
  obtain ⟨⟨hxo, hoc, hlc, hzl, hz1⟩, hr⟩ := hr
  have hr2 : Q undefS (H.set id (.row s'' c T xs)) ν.nx := hr ⟨hxo, hoc, hlc, hzl, hz1⟩
  clear hr
  have ht := sliceT_eq he
  rw [he] at hsz hzz
  simp only [obind, tySize, tyZero, Option.map_eq_some_iff, Option.bind_eq_some_iff] at hsz hzz
  obtain ⟨i, hi, rfl⟩ := hsz
  obtain ⟨z, ⟨i'', hi'', hz⟩, rfl⟩ := hzz
  obtain rfl : i = i'' := Option.some.inj (hi.symm.trans hi'')
  have hsl := hs _ rfl
  simp only [Rel] at hsl
  obtain ⟨_, base, rfl, hbase⟩ := hsl
  obtain ⟨hid, hnc, hrows, os, hrel, hones, hrw⟩ := hH.ok id _ hb
  have hxl := hrel.length hrows
  by_cases hl0 : len = 0
  · subst hl0
    refine ⟨undef, w, ν, _, _, .inl ?_, .refl _, ?_, rel_v, hr2⟩
    · cases base <;> simp [Builtin.clear_, run_underlying ht, undef]
    · refine hH.less fun k b' hk => ?_
      rw [Heap.get_set] at hk
      split at hk
      · rename_i e; subst e
        simp only [hb, Option.map_some, Option.some.injEq] at hk
        rw [hb, ← hk]
      · exact hk
  · have hcap : 0 < cap := by omega
    have hc0 : c ≠ 0 := by omega
    obtain ⟨cc, h1, h2, h3⟩ := hrw hc0
    have hb0 := hbase hcap
    subst hb0
    have hcl : (repeatL z.cells.toList len).length = len * i.size := by rw [repeatL_length, hzl]
    have hmul : off * i.size + len * i.size ≤ cc.size := by
      rw [h2, ← Nat.add_mul]; exact Nat.mul_le_mul_right _ hoc
    have hos : os.length ≤ off * i.size := by rw [hxl]; exact Nat.mul_le_mul_right _ hxo
    have hst := run_storeCells_at (P := P) (ν.blk id) (off * i.size) T (repeatL z.cells.toList len) 0 cc w h1 (by rw [hcl]; omega) (fun v hv => (List.all_eq_true.1 hz1) v (repeatL_mem hv))
    simp only [Nat.add_zero] at hst
    have hlen2 : ∃ n, len = n + 1 := ⟨len - 1, by omega⟩
    have hrun : (do pure (.value (← Builtin.clear_ #[t] ty #[.slice (some ⟨ν.blk id, off * i.size, none⟩) len cap])) : Sem Next).run P w = .ok (.value undef) (w.setRow (ν.blk id) (cc.toList.take (off * i.size) ++ repeatL z.cells.toList len ++ cc.toList.drop (off * i.size + (repeatL z.cells.toList len).length)).toArray) := by
      obtain ⟨n, rfl⟩ := hlen2
      have hzr : (zeroValue e).run P w = .ok z w := run_zero' hi hz w
      rw [← zeroCells_eq] at hst ⊢
      simp [Builtin.clear_, run_underlying ht, hzr, hst, undef]
    refine ⟨undef, _, ν, _, _, .inl hrun, .refl _, ?_, rel_v, hr2⟩
    refine hH.write hb hc0 (fun k hk => setRow_other _ _ _ _ hk) (by simp) (fix_setRow _ _ _) ⟨hid, hnc, hrows, os, hrel, hones, fun _ => ⟨(cc.toList.take (off * i.size) ++ repeatL z.cells.toList len ++ cc.toList.drop (off * i.size + (repeatL z.cells.toList len).length)).toArray, setRow_heap w _ _ _ _ _ h1, ?_, fun j hj => ?_⟩⟩
    · simp only [List.size_toArray, List.length_append, List.length_take, List.length_drop, Array.length_toList]
      omega
    · have hsp := splice_get cc.toList (repeatL z.cells.toList len) (off * i.size) j (by rw [hcl]; simpa using hmul)
      simp only [List.getElem?_toArray, hsp]
      rw [if_neg (by omega), ← h3 j hj]; simp

theorem builtin_sound {b : Builtin} {nt : Nat} {env : Env} {a : Act} {args : List Operand} {tys : List TypeId} {ty : TypeId} {consts : Array Bool} (hE : RelE ν nt env a.tmps) (hH : Holds x ν H w) (hr : R1OK Q (sBuiltin P x.gl env H ν.nx b args tys)) :
    OpR P x ν w (builtin b tys.toArray ty consts (args.map a.eval).toArray) Q := by
  have he : ∀ (y : Operand) q, ev x.gl env y = some q → Rel ν q (a.eval y) := fun y q h => ev_rel hH.glOK hE h
  unfold sBuiltin at hr
  split at hr
  · exact (len_sound (he _) hr).toR hH
  · exact (cap_sound (he _) hr).toR hH
  · exact append_sound hH (he _) (he _) hr
  · exact copy_sound hH (he _) (he _) hr
  · refine (minMax_sound (mx := true) (tys := tys.toArray) (ty := ty) ⟨by simp, fun i s hi => ?_⟩ hr).toR hH
    simp only [List.getElem?_map, Option.map_eq_some_iff] at hi
    obtain ⟨y, h1, h2⟩ := hi
    exact ⟨a.eval y, by simp [h1], he y s h2⟩
  · refine (minMax_sound (mx := false) (tys := tys.toArray) (ty := ty) ⟨by simp, fun i s hi => ?_⟩ hr).toR hH
    simp only [List.getElem?_map, Option.map_eq_some_iff] at hi
    obtain ⟨y, h1, h2⟩ := hi
    exact ⟨a.eval y, by simp [h1], he y s h2⟩
  · exact clear_sound hH (he _) hr
  · exact hr.elim
theorem builtin_soundC {b : Builtin} {nt : Nat} {env : Env} {a : Act} {args : List Operand} {tys : List TypeId} {ty : TypeId} {consts : Array Bool} (hE : RelE ν nt env a.tmps) (hH : Holds x ν H w) (hr : R1OK Q (sBuiltinC P x.gl env H ν.nx b args tys)) :
    OpR P x ν w (builtin b tys.toArray ty consts (args.map a.eval).toArray) Q := by
  have he : ∀ (y : Operand) q, ev x.gl env y = some q → Rel ν q (a.eval y) := fun y q h => ev_rel hH.glOK hE h
  unfold sBuiltinC at hr
  split at hr
  · exact append_soundC hH (he _) (he _) hr
  · exact hr.elim
end
end Go.Sy
namespace Go.Sy
open Go
set_option linter.unusedSimpArgs false
set_option linter.unusedVariables false

section
variable {P : Program} {x : Ctx} {ν : Nm} {H : Heap} {w : World} {Q : SV → Heap → Nat → Prop}

theorem makeMap_sound {t : TypeId} (hH : Holds x ν H w) (hr : R1OK Q (sMakeMap (tyMap P t) H ν.nx)) : OpR P x ν w (do pure (.value (← Instr.makeMap t none))) Q := by
  unfold sMakeMap at hr
  split at hr
  case h_2 => exact hr.elim
  rename_i ag ks z ht
  have hr : Q (.mp ν.nx) ((ν.nx, .map ag ks fun _ => none) :: H) (ν.nx + 1) := hr
  have hone : ag = false → ks.length = 1 := by
    unfold tyMap at ht
    split at ht
    case h_2 => cases ht
    split at ht
    case h_2 => cases ht
    rename_i ag' ks' z' hk hz
    have : ag' = ag ∧ ks' = ks := by
      split at ht <;> (simp only [Option.some.injEq, Prod.mk.injEq] at ht; exact ⟨ht.1, ht.2.1⟩)
    obtain ⟨rfl, rfl⟩ := this
    rintro rfl
    unfold tyKey at hk
    split at hk
    · simp only [Option.some.injEq, Prod.mk.injEq] at hk; rw [← hk.2]; rfl
    · split at hk
      · split at hk <;> simp at hk
      · cases hk
    · cases hk
  refine ⟨.map (some w.heap.size), { w with heap := w.heap.push (.map #[] 0) }, ν.name w.heap.size, .mp ν.nx, _, .inl ?_, Grows.name _ _, hH.push (o := .map #[] 0) rfl ⟨rfl, rfl, rfl⟩ ?_, ?_, hr⟩
  · simp [Instr.makeMap, newObj, Sem.run]
  · exact ⟨Nat.lt_succ_self _, #[], 0, by rw [Nm.name_blk]; simp, hone, by simp, fun ns s _ h => by simp at h, by simp, by simp, by simp⟩
  · exact ⟨Nat.lt_succ_self _, by rw [Nm.name_blk]⟩

theorem check_int {k : IntKind} {t : TypeId} {v : Value} {em : Bool} {n : Nat} (hu : P.underlying t = some (.int k)) : (Instr.checkKey em (n + 1) t v).run P w = .ok () w := by
  simp only [Instr.checkKey, Sem.run_bind, run_underlying hu, Result.andThen_ok]
  rfl
theorem check_fields {cs : Array Value} (body : Field → PUnit → Sem (ForInStep PUnit)) (hbody : ∀ f k v, P.underlying f.type = some (.int k) → (part f.type cs f.offset).run P w = .ok v w → (body f ⟨⟩).run P w = .ok (.yield ⟨⟩) w) :
    ∀ (l : List Field) (i : Nat) (ks : List IntKind), keyKinds P i l = some ks → i + ks.length ≤ cs.size → (forIn l PUnit.unit body).run P w = .ok ⟨⟩ w
  | [], i, ks, h, hl => rfl
  | f :: l, i, ks, h, hl => by
    simp only [keyKinds] at h
    split at h
    case isFalse => cases h
    rename_i hc
    split at h
    case h_2 => cases h
    rename_i k ks' h1 h2 h3
    simp only [Option.some.injEq] at h
    subst h
    simp only [List.length_cons] at hl
    have ih := check_fields body hbody l (i + 1) ks' h3 (by omega)
    have hag : tyAgg P f.type = some false := by simp [tyAgg, h1, aggD]
    have hp := part_run (P := P) (w := w) (c := cs) (o := f.offset) h2 hag (by omega) (fun _ => rfl)
    rw [List.forIn_cons, Sem.run_bind, hbody f k _ h1 hp, Result.andThen_ok]
    exact ih
theorem check_struct {fs : Array Field} {t : TypeId} {cs : Array Value} {em : Bool} {n : Nat} {ks : List IntKind} (hu : P.underlying t = some (.struct fs)) (hk : keyKinds P 0 fs.toList = some ks) (hl : ks.length ≤ cs.size) :
    (Instr.checkKey em (n + 1 + 1) t (.agg cs)).run P w = .ok () w := by
  simp only [Instr.checkKey, Sem.run_bind, run_underlying hu, Result.andThen_ok]
  rw [← Array.forIn_toList, check_fields (cs := cs) _ ?_ fs.toList 0 ks hk (by omega)]
  · rfl
  · intro f k v hf hp
    by_cases hn : f.name = "_"
    · simp [hn]
    · simp only [ne_eq, hn, not_false_eq_true, if_true, Sem.run_bind, hp, Result.andThen_ok, run_underlying hf]
      rfl

/-- Two keys. -/
theorem keyV_false {k : IntKind} {n : Int} : keyV false [k] [n] = .int k n := rfl
theorem keyV_true {ks : List IntKind} {ns : List Int} : keyV true ks ns = .agg (List.zipWith Value.int ks ns).toArray := by
  unfold keyV; split
  · rename_i h _; cases h
  · rfl
theorem zip_inj : ∀ {ks : List IntKind} {ns ms : List Int}, ns.length = ks.length → ms.length = ks.length → List.zipWith Value.int ks ns = List.zipWith Value.int ks ms → ns = ms
  | [], [], [], _, _, _ => rfl
  | k :: ks, n :: ns, m :: ms, h1, h2, h => by
    simp only [List.zipWith_cons_cons, List.cons.injEq, Value.int.injEq, true_and] at h
    rw [h.1, zip_inj (by simpa using h1) (by simpa using h2) h.2]
  | [], _ :: _, _, h, _, _ => by simp at h
  | [], [], _ :: _, _, h, _ => by simp at h
  | _ :: _, [], _, h, _, _ => by simp at h
  | _ :: _, _ :: _, [], _, h, _ => by simp at h
theorem keyV_inj {ag : Bool} {ks : List IntKind} {ns ms : List Int} (h1 : ag = false → ks.length = 1) (h2 : ns.length = ks.length) (h3 : ms.length = ks.length) (h : keyV ag ks ns = keyV ag ks ms) : ns = ms := by
  cases ag with
  | false =>
    have := h1 rfl
    match ks, ns, ms, this, h2, h3 with
    | [k], [n], [m], _, _, _ => simp only [keyV_false, Value.int.injEq, true_and] at h; rw [h]
  | true =>
    rw [keyV_true, keyV_true] at h
    simp only [Value.agg.injEq] at h
    exact zip_inj h2 h3 (by simpa using h)

theorem eq_zip : ∀ {ks : List IntKind} {ns ms : List Int}, ns.length = ks.length → ms.length = ks.length →
    eqCells (ks.map fun _ => true) (svs (List.zipWith Value.int ks ns)) (svs (List.zipWith Value.int ks ms)) = some (decide (ns = ms))
  | [], [], [], _, _ => by simp [svs, eqCells]
  | k :: ks, n :: ns, m :: ms, h1, h2 => by
    have ih := eq_zip (ks := ks) (ns := ns) (ms := ms) (by simpa using h1) (by simpa using h2)
    simp only [svs] at ih
    simp only [List.map_cons, svs, List.zipWith_cons_cons, eqCells, if_true, ih, Option.map_some, List.cons.injEq]
    congr 1
    by_cases hnm : n = m <;> by_cases hr : ns = ms <;> simp [hnm, hr]
  | [], _ :: _, _, h, _ => by simp at h
  | [], [], _ :: _, _, h => by simp at h
  | _ :: _, [], _, h, _ => by simp at h
  | _ :: _, _ :: _, [], _, h => by simp at h

/-- The entry of a key among some. -/
def pick (f : Value → Bool) : List MapEntry → Nat → Option (Nat × Value)
  | [], _ => none
  | e :: es, i => if f e.key then some (i, e.val) else pick f es (i + 1)

theorem findAsking_run {kt : TypeId} {k : Value} {f : Value → Bool} : ∀ (es : List MapEntry) (i : Nat), (∀ e ∈ es, ∀ w, (Op.equal kt k e.key).run P w = .ok (f e.key) w) → ∀ w, (Instr.findAsking kt k es i).run P w = .ok (pick f es i) w
  | [], i, _, w => rfl
  | e :: es, i, h, w => by
    have ih := findAsking_run es (i + 1) (fun e' he' => h e' (by simp [he'])) w
    simp only [Instr.findAsking, Sem.run_bind, h e (by simp) w, Result.andThen_ok, pick]
    cases f e.key with
    | true => rfl
    | false => simpa using ih

theorem findNow_int {k : IntKind} {n : Int} {d : IntKind} {f : Value → Bool} : ∀ (es : List MapEntry) (i : Nat), (∀ e ∈ es, ∃ m, e.key = .int k m ∧ f e.key = (n == m)) → Instr.findNow (.int d) (.int k n) es i = some (pick f es i)
  | [], i, _ => rfl
  | e :: es, i, h => by
    obtain ⟨m, hm, hf⟩ := h e (by simp)
    have ih := findNow_int (d := d) es (i + 1) (fun e' he' => h e' (by simp [he']))
    have hsn : Instr.sameNow (.int d) (.int k n) (.int k m) = some (n == m) := by simp [Instr.sameNow]
    simp only [Instr.findNow, pick, hf]
    rw [hm, hsn]
    cases n == m with
    | true => rfl
    | false => simpa using ih

theorem pick_spec {f : Value → Bool} : ∀ {es : List MapEntry} {i : Nat}, match pick f es i with
    | some (j, v) => ∃ q, j = i + q ∧ ∃ e, es[q]? = some e ∧ f e.key = true ∧ e.val = v
    | none => ∀ e ∈ es, f e.key = false
  | [], i => by simp [pick]
  | e :: es, i => by
    simp only [pick]
    by_cases h : f e.key = true
    · simp only [h, if_true]
      exact ⟨0, rfl, e, rfl, h, rfl⟩
    · simp only [h]
      have ih := pick_spec (f := f) (es := es) (i := i + 1)
      simp only [Bool.false_eq_true, if_false]
      cases hp : pick f es (i + 1) with
      | none =>
        rw [hp] at ih
        intro e' he'
        rcases List.mem_cons.1 he' with rfl | he'
        · simpa using h
        · exact ih e' he'
      | some jv =>
        obtain ⟨j, v⟩ := jv
        rw [hp] at ih
        obtain ⟨q, h1, e', h2, h3, h4⟩ := ih
        exact ⟨q + 1, by omega, e', by simpa using h2, h3, h4⟩

/-- A key's type. -/
def KeyT (P : Program) (kt : TypeId) (ag : Bool) (ks : List IntKind) : Prop := tyKey P kt = some (ag, ks)
theorem KeyT.check {kt : TypeId} {ag : Bool} {ks : List IntKind} {ns : List Int} {em : Bool} (h : KeyT P kt ag ks) (hl : ns.length = ks.length) (w : World) : (Instr.checkKey em 10000 kt (keyV ag ks ns)).run P w = .ok () w := by
  unfold KeyT tyKey at h
  split at h
  · rename_i k hu
    exact check_int hu
  · rename_i fs hu
    split at h
    case h_2 => cases h
    rename_i l hk
    split at h
    case isFalse => cases h
    simp only [Option.some.injEq, Prod.mk.injEq] at h
    obtain ⟨rfl, rfl⟩ := h
    rw [keyV_true]
    exact check_struct hu hk (by simp; omega)
  · cases h
theorem KeyT.find {kt : TypeId} {ag : Bool} {ks : List IntKind} {ns : List Int} {f : List Int → Option SV} {es : List MapEntry} {clock : Nat} (h : KeyT P kt ag ks) (hl : ns.length = ks.length) (hM : MapOK ν ag ks f es clock) :
    ∃ r, (∀ w, (Instr.findKey kt (keyV ag ks ns) es).run P w = .ok r w) ∧ match r with
      | some (j, v) => ∃ e, es[j]? = some e ∧ e.key = keyV ag ks ns ∧ e.val = v
      | none => ∀ e ∈ es, e.key ≠ keyV ag ks ns := by
  have hspec : ∀ (g : Value → Bool), (∀ v, g v = true ↔ v = keyV ag ks ns) → match pick g es 0 with
      | some (j, v) => ∃ e, es[j]? = some e ∧ e.key = keyV ag ks ns ∧ e.val = v
      | none => ∀ e ∈ es, e.key ≠ keyV ag ks ns := by
    intro g hg
    have := pick_spec (f := g) (es := es) (i := 0)
    cases hp : pick g es 0 with
    | none =>
      rw [hp] at this
      intro e he heq
      have h1 := this e he
      rw [(hg _).2 heq] at h1
      cases h1
    | some jv =>
      obtain ⟨j, v⟩ := jv
      rw [hp] at this
      obtain ⟨q, h1, e, h2, h3, h4⟩ := this
      exact ⟨e, by rw [h1, Nat.zero_add]; exact h2, (hg _).1 h3, h4⟩
  obtain ⟨g, hg⟩ : ∃ g : Value → Bool, ∀ v, g v = true ↔ v = keyV ag ks ns := ⟨fun v => @decide (v = keyV ag ks ns) (Classical.propDecidable _), fun v => by simp⟩
  have hs := hspec g hg
  unfold KeyT tyKey at h
  split at h
  · rename_i k hu
    simp only [Option.some.injEq, Prod.mk.injEq] at h
    obtain ⟨rfl, rfl⟩ := h
    match ns, hl with
    | [n], _ =>
      have hnow := findNow_int (k := k) (n := n) (d := k) (f := g) es 0 (fun e he => by
        obtain ⟨ms, s, h1, h2, _⟩ := hM.in_ e he
        match ms, h1 with
        | [m], _ =>
          refine ⟨m, h2, ?_⟩
          have := hg e.key
          rw [h2, keyV_false, keyV_false] at this
          rw [h2, keyV_false]
          simp only [Value.int.injEq, true_and] at this
          by_cases e1 : m = n
          · rw [this.2 e1, e1]; simp
          · have : g (.int k m) = false := by simpa using fun h => e1 (this.1 h)
            rw [this]
            have : ¬ n = m := fun h => e1 h.symm
            simp [this])
      refine ⟨pick g es 0, fun w => ?_, hs⟩
      simp only [Instr.findKey, keyV_false, Sem.run_bind, run_underlying hu, Result.andThen_ok, hnow]
      rfl
  · rename_i fs hu
    split at h
    case h_2 => cases h
    rename_i l hk
    split at h
    case isFalse => cases h
    rename_i heq
    simp only [Option.some.injEq, Prod.mk.injEq] at h
    obtain ⟨rfl, rfl⟩ := h
    have hg2 : tyAgg P kt = some true := by simp [tyAgg, hu, aggD]
    have hrun : ∀ e ∈ es, ∀ w, (Op.equal kt (keyV true l ns) e.key).run P w = .ok (g e.key) w := by
      intro e he w
      obtain ⟨ms, s, h1, h2, _⟩ := hM.in_ e he
      obtain ⟨q, q1, _, q3⟩ := eqRun (P := P) 8 kt _ heq 10000 (by omega) _ _ _ _ _ nm0 w (RelL.svs (List.zipWith Value.int l ns)) (RelL.svs (List.zipWith Value.int l ms)) (eq_zip hl h1)
      rw [hg2] at q1
      simp only [Option.some.injEq] at q1
      subst q1
      have hge : g e.key = decide (ns = ms) := by
        have h3 := hg e.key
        by_cases e1 : ns = ms
        · rw [h3.2 (by rw [h2, e1])]; simp [e1]
        · have : g e.key = false := by
            cases h4 : g e.key with
            | false => rfl
            | true => exact absurd (keyV_inj hM.one h1 hl (h2.symm.trans (h3.1 h4))).symm e1
          rw [this]; simp [e1]
      rw [hge, h2, keyV_true, keyV_true]
      show (Op.equalIn 10000 kt _ _).run P w = _
      simpa using q3
    refine ⟨pick g es 0, fun w => ?_, hs⟩
    rcases es with _ | ⟨e, es⟩
    · simp only [Instr.findKey, Sem.run_bind, run_underlying hu, Result.andThen_ok, Instr.findNow]
      rfl
    · have hno : Instr.findNow (.struct fs) (keyV true l ns) (e :: es) 0 = none := by
        simp [Instr.findNow, Instr.sameNow]
      simp only [Instr.findKey, Sem.run_bind, run_underlying hu, Result.andThen_ok, hno]
      exact findAsking_run (e :: es) 0 hrun w
  · cases h

theorem tyMap_eq {t : TypeId} {ag : Bool} {ks : List IntKind} {z : SV} (h : tyMap P t = some (ag, ks, z)) :
    ∃ k e zv, P.underlying t = some (.map k e) ∧ KeyT P k ag ks ∧ (∀ w, (zeroValue e).run P w = .ok zv w) ∧ ∀ ν, Rel ν z zv := by
  unfold tyMap at h
  split at h
  case h_2 => cases h
  rename_i k e hu
  split at h
  case h_2 => cases h
  rename_i ag' ks' z' hk hz
  have hz2 : ∀ w, (zeroValue e).run P w = .ok z' w := by
    intro w
    simp only [tyZeroV, Option.bind_eq_some_iff] at hz
    obtain ⟨i, h1, h2⟩ := hz
    simp [zeroValue, typeInfo, h1, h2]
  split at h
  · simp only [Option.some.injEq, Prod.mk.injEq] at h
    obtain ⟨rfl, rfl, rfl⟩ := h
    exact ⟨k, e, _, hu, hk, hz2, fun ν => ⟨_, rfl, RelL.svs _⟩⟩
  · simp only [Option.some.injEq, Prod.mk.injEq] at h
    obtain ⟨rfl, rfl, rfl⟩ := h
    exact ⟨k, e, _, hu, hk, hz2, fun ν => rfl⟩

theorem intCells_rel : ∀ {cs : List SV} {ks : List IntKind} {ns : List Int} {vs : List Value}, intCells cs = some (ks, ns) → RelL ν cs vs → ns.length = ks.length ∧ vs = List.zipWith Value.int ks ns
  | [], ks, ns, vs, h, hr => by
    simp only [intCells, Option.some.injEq, Prod.mk.injEq] at h
    obtain ⟨rfl, rfl⟩ := h
    exact ⟨rfl, hr⟩
  | c :: cs, ks, ns, vs, h, hr => by
    unfold intCells at h
    split at h
    · rename_i e; cases e
    · rename_i k n l e
      cases e
      split at h
      case h_2 => cases h
      rename_i ks' ns' h1
      simp only [Option.some.injEq, Prod.mk.injEq] at h
      obtain ⟨rfl, rfl⟩ := h
      simp only [RelL] at hr
      obtain ⟨y, ys, rfl, h2, h3⟩ := hr
      simp only [Rel] at h2
      subst h2
      obtain ⟨h4, rfl⟩ := intCells_rel h1 h3
      exact ⟨by simp [h4], rfl⟩
    · cases h
theorem keyS_rel {k : SV} {ag : Bool} {ks : List IntKind} {ns : List Int} {v : Value} (h : keyS k = some (ag, ks, ns)) (hv : Rel ν k v) : ns.length = ks.length ∧ v = keyV ag ks ns := by
  unfold keyS at h
  split at h
  · simp only [Option.some.injEq, Prod.mk.injEq] at h
    obtain ⟨rfl, rfl, rfl⟩ := h
    exact ⟨rfl, hv⟩
  · split at h
    case h_2 => cases h
    rename_i ks' ns' h1
    simp only [Option.some.injEq, Prod.mk.injEq] at h
    obtain ⟨rfl, rfl, rfl⟩ := h
    simp only [Rel] at hv
    obtain ⟨c, rfl, h2⟩ := hv
    obtain ⟨h3, h4⟩ := intCells_rel h1 h2
    exact ⟨h3, by rw [keyV_true, ← h4]⟩
  · cases h

theorem lookup_sound {t : TypeId} {ok : Bool} {s k : Option SV} {m kv : Value} (hH : Holds x ν H w) (hs : ∀ q, s = some q → Rel ν q m) (hk : ∀ q, k = some q → Rel ν q kv)
    (hr : R1OK Q (sLookup (tyMap P t) ok H ν.nx s k)) : OpQ P ν w (do pure (.value (← Instr.lookup t m kv ok))) fun s => Q s H ν.nx := by
  unfold sLookup at hr
  split at hr
  case h_2 => exact hr.elim
  rename_i id k
  have h1 := hs _ rfl
  have h2 := hk _ rfl
  simp only [Rel] at h1
  obtain ⟨_, rfl⟩ := h1
  unfold sLookupIn at hr
  split at hr
  case h_2 => exact hr.elim
  rename_i ag ks f ag' ks' ns hb hks
  split at hr
  case h_2 => exact hr.elim
  rename_i ag'' ks'' z ht
  split at hr
  case isFalse => exact hr.elim
  rename_i hc
  obtain ⟨rfl, rfl, rfl, rfl⟩ := hc
  obtain ⟨kt, e, zv, hu, hK, hz, hzr⟩ := tyMap_eq ht
  obtain ⟨hnl, rfl⟩ := keyS_rel hks h2
  obtain ⟨_, es, clock, hes, hM⟩ := hH.ok id _ hb
  have hlt : ν.blk id < w.heap.size := (Array.getElem?_eq_some_iff.1 hes).1
  obtain ⟨r, hf, hr2⟩ := hK.find hnl hM
  have hchk := fun em w => hK.check (em := em) hnl w
  have hget : ∀ w', Ext w w' → w'.heap[ν.blk id]? = some (.map es clock) := fun w' e' => by rw [e'.block _ hlt]; exact hes
  have main : ∀ (v : Value) (found : Bool), Rel ν ((f ns).getD z) v → (f ns).isSome = found → (∀ w', Ext w w' → (Instr.lookup t (.map (some (ν.blk id))) (keyV ag ks ns) ok).run P w' = .ok (if ok then .tuple #[v, .bool found] else v) w') → OpQ P ν w (do pure (.value (← Instr.lookup t (.map (some (ν.blk id))) (keyV ag ks ns) ok))) fun s => Q s H ν.nx := by
    intro v found hv hfd hrun
    refine ⟨if ok then .tuple #[v, .bool found] else v, _, fun w' e' => by simp [hrun w' e'], ?_, hr⟩
    cases ok with
    | true => exact ⟨_, rfl, v, [.bool found], rfl, hv, .bool found, [], rfl, by rw [hfd]; rfl, rfl⟩
    | false => exact hv
  cases r with
  | none =>
    have hfn : f ns = none := by
      cases hfs : f ns with
      | none => rfl
      | some s =>
        obtain ⟨e', h3, h4⟩ := hM.out ns s hnl hfs
        exact absurd h4 (hr2 e' h3)
    refine main zv false (by rw [hfn]; exact hzr ν) (by rw [hfn]; rfl) fun w' e' => ?_
    have hg := hget w' e'
    simp [Instr.lookup, run_underlying hu, getObj, Sem.run, hg, hchk, hf, hz]
  | some jv =>
    obtain ⟨j, v⟩ := jv
    obtain ⟨en, h3, h4, rfl⟩ := hr2
    obtain ⟨ms, s, h5, h6, h7, h8⟩ := hM.in_ en (List.mem_of_getElem? h3)
    have := keyV_inj hM.one h5 hnl (h6.symm.trans h4)
    subst this
    refine main en.val true (by rw [h7]; exact h8.grows (.ofFree ν)) (by rw [h7]; rfl) fun w' e' => ?_
    have hg := hget w' e'
    simp [Instr.lookup, run_underlying hu, getObj, Sem.run, hg, hchk, hf]

theorem sameBits_key {ag : Bool} {ks : List IntKind} {ns : List Int} : Instr.sameBits 10000 (keyV ag ks ns) (keyV ag ks ns) = true := by
  have hz : ∀ (ks : List IntKind) (ns : List Int), ((List.zipWith Value.int ks ns).zip (List.zipWith Value.int ks ns)).all (fun (x, y) => Instr.sameBits 9999 x y) = true := by
    intro ks
    induction ks with
    | nil => intro ns; rfl
    | cons k ks ih =>
      intro ns
      cases ns with
      | nil => rfl
      | cons n ns =>
        simp only [List.zipWith_cons_cons, List.zip_cons_cons, List.all_cons, ih ns, Bool.and_true]
        simp [Instr.sameBits]
  cases ag with
  | true =>
    rw [keyV_true]
    simp only [Instr.sameBits, beq_self_eq_true, Bool.true_and]
    exact hz ks ns
  | false =>
    unfold keyV
    split
    · rename_i v _ h
      match ks, ns, h with
      | k :: ks, n :: ns, h => simp only [List.zipWith_cons_cons, List.cons.injEq] at h; rw [← h.1]; simp [Instr.sameBits]
    · simp only [Instr.sameBits, beq_self_eq_true, Bool.true_and]
      exact hz ks ns

theorem idFree'_free : ∀ {s : SV} {y : Value}, idFree' s = true → Rel ν s y → Rel ν.free s y := by
  intro s y h hr
  cases s with
  | agg cs =>
    simp only [Rel] at hr ⊢
    obtain ⟨c, h1, h2⟩ := hr
    exact ⟨c, h1, idFrees_free h h2⟩
  | _ => exact idFree_free h hr

theorem mapUp_sound {t : TypeId} {s k q : Option SV} {m kv v : Value} (hH : Holds x ν H w) (hs : ∀ u, s = some u → Rel ν u m) (hk : ∀ u, k = some u → Rel ν u kv) (hq : ∀ u, q = some u → Rel ν u v)
    (hr : R1OK Q (sMapUp (tyMap P t) H ν.nx s k q)) : OpR P x ν w (do Instr.mapUpdate t m kv v; pure .skip) Q := by
  unfold sMapUp at hr
  split at hr
  case h_2 => exact hr.elim
  rename_i id k u
  have h1 := hs _ rfl
  have h2 := hk _ rfl
  have hu := hq _ rfl
  simp only [Rel] at h1
  obtain ⟨_, rfl⟩ := h1
  unfold sMapUpIn at hr
  split at hr
  case h_2 => exact hr.elim
  rename_i ag ks f ag' ks' ns hb hks
  split at hr
  case h_2 => exact hr.elim
  rename_i ag'' ks'' z ht
  split at hr
  case isFalse => exact hr.elim
  rename_i hc
  obtain ⟨rfl, rfl, rfl, rfl, hfree⟩ := hc
  have hr : Q undefS (H.set id (.map ag ks fun q => if q = ns then some u else f q)) ν.nx := hr
  obtain ⟨kt, e, zv, hut, hK, hz, hzr⟩ := tyMap_eq ht
  obtain ⟨hnl, rfl⟩ := keyS_rel hks h2
  obtain ⟨hid, es, clock, hes, hM⟩ := hH.ok id _ hb
  have hlt : ν.blk id < w.heap.size := (Array.getElem?_eq_some_iff.1 hes).1
  obtain ⟨r, hf, hr2⟩ := hK.find hnl hM
  have hchk := fun em w => hK.check (em := em) hnl w
  have hunf := idFree'_free hfree hu
  have fin : ∀ (es' : Array MapEntry) (clock' : Nat), (Instr.mapUpdate t (.map (some (ν.blk id))) (keyV ag ks ns) v).run P w = .ok () { w with heap := w.heap.setIfInBounds (ν.blk id) (.map es' clock') } → MapOK ν ag ks (fun q => if q = ns then some u else f q) es'.toList clock' →
      OpR P x ν w (do Instr.mapUpdate t (.map (some (ν.blk id))) (keyV ag ks ns) v; pure .skip) Q := by
    intro es' clock' hrun hM'
    refine ⟨undef, { w with heap := w.heap.setIfInBounds (ν.blk id) (.map es' clock') }, ν, undefS, _, .inr ⟨by simp [hrun], rfl⟩, .refl _, ?_, rfl, hr⟩
    refine hH.write hb trivial (fun k hk => by simp [Array.getElem?_setIfInBounds, Ne.symm hk]) (by simp) ⟨rfl, rfl, rfl⟩ ⟨hid, es', clock', by simp [hlt], hM'⟩
  cases r with
  | none =>
    refine fin (es.push ⟨keyV ag ks ns, v, clock⟩) (clock + 1) ?_ ⟨hM.one, fun e' he' => ?_, fun ms s' hml hms => ?_, ?_, fun e' he' => ?_, ?_⟩
    · simp [Instr.mapUpdate, run_underlying hut, getObj, setObj, Sem.run, hes, hchk, hf]
    · simp only [Array.toList_push, List.mem_append, List.mem_singleton] at he'
      rcases he' with he' | rfl
      · obtain ⟨ms, s', h3, h4, h5, h6⟩ := hM.in_ e' he'
        refine ⟨ms, s', h3, h4, ?_, h6⟩
        show (if ms = ns then some u else f ms) = some s'
        rw [if_neg]
        · exact h5
        · rintro rfl; exact hr2 e' he' h4
      · exact ⟨ns, u, hnl, rfl, by simp, hunf⟩
    · simp only [Array.toList_push, List.mem_append, List.mem_singleton]
      replace hms : (if ms = ns then some u else f ms) = some s' := hms
      split at hms
      · rename_i heq; subst heq
        exact ⟨_, .inr rfl, rfl⟩
      · obtain ⟨e', h3, h4⟩ := hM.out ms s' hml hms
        exact ⟨e', .inl h3, h4⟩
    · simp only [Array.toList_push, List.map_append, List.map_cons, List.map_nil]
      rw [List.nodup_append]
      refine ⟨hM.nd, by simp, fun a ha b hb hab => ?_⟩
      simp only [List.mem_singleton] at hb
      simp only [List.mem_map] at ha
      obtain ⟨e', h3, rfl⟩ := ha
      exact hr2 e' h3 (hab.trans hb)
    · simp only [Array.toList_push, List.mem_append, List.mem_singleton] at he'
      rcases he' with he' | rfl
      · exact Nat.lt_succ_of_lt (hM.bd e' he')
      · exact Nat.lt_succ_self _
    · simp only [Array.toList_push, List.map_append, List.map_cons, List.map_nil]
      rw [List.nodup_append]
      refine ⟨hM.bn, by simp, fun a ha b hb hab => ?_⟩
      simp only [List.mem_singleton] at hb
      simp only [List.mem_map] at ha
      obtain ⟨e', h3, rfl⟩ := ha
      have := hM.bd e' h3
      omega
  | some jv =>
    obtain ⟨j, v0⟩ := jv
    obtain ⟨en, h3, h4, rfl⟩ := hr2
    have h3' : es[j]? = some en := by simpa using h3
    have hjlt : j < es.size := (Array.getElem?_eq_some_iff.1 h3').1
    have hkey : ((es[j]?).map (·.key)).getD (keyV ag ks ns) = keyV ag ks ns := by rw [h3']; exact h4
    have hget : ∀ q, (es.modify j fun e => { e with key := keyV ag ks ns, val := v })[q]? = if j = q then some { en with key := keyV ag ks ns, val := v } else es[q]? := by
      intro q
      rw [Array.getElem?_modify]
      split
      · rename_i e; subst e; rw [h3']; rfl
      · rfl
    have hmem : ∀ e', e' ∈ (es.modify j fun e => { e with key := keyV ag ks ns, val := v }).toList → e' = { en with key := keyV ag ks ns, val := v } ∨ (∃ q, q ≠ j ∧ es[q]? = some e') := by
      intro e' he'
      obtain ⟨q, hq⟩ := List.getElem?_of_mem he'
      rw [Array.getElem?_toList, hget] at hq
      split at hq
      · simp only [Option.some.injEq] at hq; exact .inl hq.symm
      · rename_i hne; exact .inr ⟨q, fun e => hne e.symm, hq⟩
    have hnd : ∀ q e', q ≠ j → es[q]? = some e' → e'.key ≠ keyV ag ks ns := by
      intro q e' hne hq heq
      have hql : q < es.size := (Array.getElem?_eq_some_iff.1 hq).1
      have := (List.getElem?_inj (i := q) (j := j) (by simpa using hql) hM.nd).1 (by
        simp only [List.getElem?_map, Array.getElem?_toList, hq, h3', Option.map_some, heq, h4])
      exact hne this
    refine fin (es.modify j fun e => { e with key := keyV ag ks ns, val := v }) clock ?_ ⟨hM.one, fun e' he' => ?_, fun ms s' hml hms => ?_, ?_, fun e' he' => ?_, ?_⟩
    · simp [Instr.mapUpdate, run_underlying hut, getObj, setObj, Sem.run, hes, hchk, hf, hkey, Instr.keyThatStays, sameBits_key]
    · rcases hmem e' he' with rfl | ⟨q, hne, hq⟩
      · exact ⟨ns, u, hnl, rfl, by simp, hunf⟩
      · have hin : e' ∈ es.toList := List.mem_of_getElem? (i := q) (by simpa using hq)
        obtain ⟨ms, s', k3, k4, k5, k6⟩ := hM.in_ e' hin
        refine ⟨ms, s', k3, k4, ?_, k6⟩
        show (if ms = ns then some u else f ms) = some s'
        rw [if_neg]
        · exact k5
        · rintro rfl; exact hnd q e' hne hq k4
    · replace hms : (if ms = ns then some u else f ms) = some s' := hms
      split at hms
      · rename_i heq; subst heq
        refine ⟨{ en with key := keyV ag ks ms, val := v }, List.mem_of_getElem? (i := j) ?_, rfl⟩
        rw [Array.getElem?_toList, hget, if_pos rfl]
      · rename_i hne
        obtain ⟨e', k3, k4⟩ := hM.out ms s' hml hms
        obtain ⟨q, hq⟩ := List.getElem?_of_mem k3
        have hqj : j ≠ q := by
          rintro rfl
          rw [h3] at hq
          simp only [Option.some.injEq] at hq
          subst hq
          exact hne (keyV_inj hM.one hml hnl (k4.symm.trans h4))
        refine ⟨e', List.mem_of_getElem? (i := q) ?_, k4⟩
        rw [Array.getElem?_toList, hget, if_neg hqj]
        simpa using hq
    · have : (es.modify j fun e => { e with key := keyV ag ks ns, val := v }).toList.map (·.key) = es.toList.map (·.key) := by
        apply List.ext_getElem?
        intro q
        simp only [List.getElem?_map, Array.getElem?_toList, hget]
        split
        · rename_i e; subst e; rw [h3']; simp [h4]
        · rfl
      rw [this]; exact hM.nd
    · rcases hmem e' he' with rfl | ⟨q, hne, hq⟩
      · exact hM.bd en (List.mem_of_getElem? h3)
      · exact hM.bd e' (List.mem_of_getElem? (i := q) (by simpa using hq))
    · have : (es.modify j fun e => { e with key := keyV ag ks ns, val := v }).toList.map (·.born) = es.toList.map (·.born) := by
        apply List.ext_getElem?
        intro q
        simp only [List.getElem?_map, Array.getElem?_toList, hget]
        split
        · rename_i e; subst e; rw [h3']; simp
        · rfl
      rw [this]; exact hM.bn

theorem range_sound {t : TypeId} {s : Option SV} {y : Value} (hH : Holds x ν H w) (hs : ∀ u, s = some u → Rel ν u y) (hr : R1OK Q (sRange (P.underlying t) H ν.nx s)) : OpR P x ν w (do pure (.value (← Instr.range t y))) Q := by
  unfold sRange at hr
  split at hr
  case h_2 => exact hr.elim
  rename_i b
  split at hr
  case h_2 => exact hr.elim
  rename_i hu
  have h1 := hs _ rfl
  simp only [Rel] at h1
  subst h1
  have hr : Q (.ptr ν.nx 0 0 0) ((ν.nx, .obj (.stringIter b 0)) :: H) (ν.nx + 1) := hr
  refine ⟨.pointer (some ⟨w.heap.size, 0, none⟩), { w with heap := w.heap.push (.stringIter b 0) }, ν.name w.heap.size, .ptr ν.nx 0 0 0, _, .inl ?_, Grows.name _ _, hH.push (o := .stringIter b 0) rfl ⟨rfl, rfl, rfl⟩ ?_, ?_, hr⟩
  · simp [Instr.range, run_underlying hu, newObj, Sem.run]
  · exact ⟨Nat.lt_succ_self _, fun c T fz h => by simp at h, by rw [Nm.name_blk]; simp⟩
  · exact ⟨Nat.lt_succ_self _, by rw [Nm.name_blk]⟩
theorem next_sound {t : TypeId} {s : Option SV} {y : Value} (hH : Holds x ν H w) (hs : ∀ u, s = some u → Rel ν u y) (hr : R1OK Q (sNext H ν.nx s)) : OpR P x ν w (do pure (.value (← Instr.next y true t))) Q := by
  unfold sNext at hr
  split at hr
  case h_2 => exact hr.elim
  rename_i id
  have h1 := hs _ rfl
  simp only [Rel] at h1
  obtain ⟨_, rfl⟩ := h1
  unfold sNextIn at hr
  split at hr
  case h_2 => exact hr.elim
  rename_i b pos hb
  obtain ⟨hid, hne, hes⟩ := hH.ok id _ hb
  have hlt : ν.blk id < w.heap.size := (Array.getElem?_eq_some_iff.1 hes).1
  split at hr
  · rename_i hp
    have hr : Q (.tup [.v (.bool true), .v (.int .i64 pos), .v (.int .i32 (Utf8.decode b pos).1)]) (H.set id (.obj (.stringIter b (pos + (Utf8.decode b pos).2)))) ν.nx := hr
    refine ⟨.tuple #[.bool true, .int .i64 pos, .int .i32 (Utf8.decode b pos).1], { w with heap := w.heap.setIfInBounds (ν.blk id) (.stringIter b (pos + (Utf8.decode b pos).2)) }, ν, _, _, .inl ?_, .refl _, ?_, ?_, hr⟩
    · simp only [Instr.next, getObj, setObj, Sem.run_bind, Sem.run, hes, Result.andThen, hp, if_true]
      simp [goInt]
    · exact hH.write hb trivial (fun k hk => by simp [Array.getElem?_setIfInBounds, Ne.symm hk]) (by simp) ⟨rfl, rfl, rfl⟩ ⟨hid, fun c T fz h => by simp at h, by simp [hlt]⟩
    · simp [Rel, RelL]
  · rename_i hp
    have hr : Q (.tup [.v (.bool false)]) H ν.nx := hr
    refine ⟨.tuple #[.bool false], w, ν, _, _, .inl ?_, .refl _, hH, ?_, hr⟩
    · simp [Instr.next, getObj, Sem.run, hes, hp]
    · simp [Rel, RelL]
end
end Go.Sy

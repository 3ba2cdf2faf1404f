/- Each operation of the executor is what the model does. No condition. -/
import Derived.Test.YtmieikflcolbaaaSyC
namespace Go.Sy
open Go
set_option linter.unusedSimpArgs false
set_option linter.unusedVariables false
def R1OK (Q : SV → Heap → Nat → Prop) : R1 → Prop
  | .ok s H nx => Q s H nx
  | .need p r => p ∧ (p → R1OK Q r)
  | .all k => ∀ i, R1OK Q (k i)
  | .fail _ => False
def OpR (P : Program) (x : Ctx) (ν : Nm) (w : World) (m : Sem Next) (Q : SV → Heap → Nat → Prop) : Prop :=
  ∃ v w' ν' s H', (m.run P w = .ok (.value v) w' ∨ (m.run P w = .ok .skip w' ∧ v = undef)) ∧ Grows ν ν' ∧ Holds x ν' H' w' ∧ Rel ν' s v ∧ Q s H' ν'.nx
section
variable {P : Program} {x : Ctx} {ν : Nm} {H : Heap} {w : World} {Q : SV → Heap → Nat → Prop}
theorem OpR.val {m : Sem Value} {v : Value} {s : SV} (hm : m.run P w = .ok v w) (hH : Holds x ν H w) (hs : Rel ν s v) (hQ : Q s H ν.nx) :
    OpR P x ν w (do pure (.value (← m))) Q :=
  ⟨v, w, ν, s, H, .inl (by simp [hm]), .refl _, hH, hs, hQ⟩
def OpQ (P : Program) (ν : Nm) (w : World) (m : Sem Next) (Q : SV → Prop) : Prop := ∃ v s, (∀ w', Ext w w' → m.run P w' = .ok (.value v) w') ∧ Rel ν s v ∧ Q s
theorem OpQ.toR {m : Sem Next} (h : OpQ P ν w m fun s => Q s H ν.nx) (hH : Holds x ν H w) : OpR P x ν w m Q :=
  let ⟨v, s, h1, h2, h3⟩ := h
  ⟨v, w, ν, s, H, .inl (h1 w (.refl w)), .refl _, hH, h2, h3⟩
theorem run_isAgg {T : TypeId} {b : Bool} (h : tyAgg P T = some b) (w : World) : (isAgg T).run P w = .ok b w := by
  simp only [tyAgg, Option.map_eq_some_iff] at h
  obtain ⟨d, h1, h2⟩ := h
  simp only [isAgg, Sem.run_bind, run_underlying h1, Result.andThen_ok]
  cases d <;> simp only [aggD] at h2 <;> subst h2 <;> rfl
theorem run_sizeOf {T : TypeId} {n : Nat} (h : tySize P T = some n) (w : World) : (sizeOf T).run P w = .ok n w := by
  simp only [tySize, Option.map_eq_some_iff] at h
  obtain ⟨i, h1, h2⟩ := h
  simp [sizeOf, typeInfo, h1, h2]
theorem run_zeroValue {T : TypeId} {cs : List Value} (h : tyZero P T = some cs) (w : World) : ∃ z, z.cells.toList = cs ∧ (zeroValue T).run P w = .ok z w := by
  simp only [tyZero, Option.map_eq_some_iff, Option.bind_eq_some_iff] at h
  obtain ⟨z, ⟨i, h1, h2⟩, h3⟩ := h
  exact ⟨z, h3, by simp [zeroValue, typeInfo, h1, h2]⟩
theorem add_eq (b o j : Nat) : (⟨b, o, none⟩ : Addr).add j = ⟨b, o + j, none⟩ := by unfold Addr.add; split <;> simp_all
theorem cell?_cells {b : Nat} {c : Array Value} {T : TypeId} {fz : Nat × Nat} (h : w.heap[b]? = some (.cells c T fz)) (o : Nat) : w.cell? ⟨b, o, none⟩ = c[o]? := by simp [World.cell?, h]
theorem aggOf_rel {b : Bool} {l : List SV} {s : SV} {cs : List Value} (h : aggOf b l = some s) (hl : RelL ν l cs) :
    (b = true ∧ Rel ν s (.agg cs.toArray)) ∨ (b = false ∧ ∃ y, cs = [y] ∧ Rel ν s y) := by
  cases b with
  | true => simp only [aggOf, Option.some.injEq] at h; subst h; exact .inl ⟨rfl, cs.toArray, rfl, by simpa using hl⟩
  | false =>
    match l, h with
    | [a], h =>
      simp only [aggOf, Option.some.injEq] at h; subst h
      simp only [RelL] at hl
      obtain ⟨y, ys, rfl, h1, rfl⟩ := hl
      exact .inr ⟨rfl, y, rfl, h1⟩
theorem loadVar_sound {T : TypeId} {b : Bool} {blk off : Nat} {cs : List Value} {l : List SV} {s : SV} (hb : tyAgg P T = some b) (hn : tySize P T = some cs.length)
    (hc : ∀ j v, cs[j]? = some v → w.cell? ⟨blk, off + j, none⟩ = some v) (hl : RelL ν l cs) (hs : aggOf b l = some s) :
    ∃ v, (∀ w', Ext w w' → (loadVar T ⟨blk, off, none⟩).run P w' = .ok v w') ∧ Rel ν s v := by
  have hc' : ∀ w', Ext w w' → ∀ j v, cs[j]? = some v → w'.cell? ⟨blk, off + j, none⟩ = some v := by
    intro w' e j v hv
    have h := hc j v hv
    have hlt : blk < w.heap.size := World.block_lt_of_cell? (a := ⟨blk, off + j, none⟩) _ h
    rw [cell?_heap (w := w) (a := ⟨blk, off + j, none⟩) (e.block blk hlt)]; exact h
  rcases aggOf_rel hs hl with ⟨rfl, h1⟩ | ⟨rfl, y, rfl, h1⟩
  · refine ⟨_, fun w' e => ?_, h1⟩
    have := run_loadCells_list (P := P) w' ⟨blk, off, none⟩ cs (fun j v hv => by rw [add_eq]; exact hc' w' e j v hv)
    simp [loadVar, run_isAgg hb, run_sizeOf hn, this]
  · refine ⟨y, fun w' e => ?_, h1⟩
    have := hc' w' e 0 y rfl
    simp only [Nat.add_zero] at this
    simp [loadVar, run_isAgg hb, load, Sem.run, this]
theorem cut_rel {o n : Nat} {x l : List SV} {ys : List Value} (h : RelL ν x ys) (hl : cut x o n = some l) :
    ∃ cs : List Value, cs.length = n ∧ RelL ν l cs ∧ ∀ j v, cs[j]? = some v → o + j < ys.length ∧ ys[o + j]? = some v := by
  obtain ⟨h1, h2⟩ := h.cut o n hl
  refine ⟨_, ?_, h2, fun j v hv => ?_⟩
  · simp; omega
  · have hj : j < n := by
      have := (List.getElem?_eq_some_iff.1 hv).1
      simp at this; omega
    rw [List.getElem?_take_of_lt hj, List.getElem?_drop] at hv
    exact ⟨by omega, hv⟩
theorem row_cells {sz e r size : Nat} {xs : List (List SV)} {l : List SV} {ys : List Value} (hr : RelLL ν.free xs ys) (hs : Rows sz xs) (he : e < xs.length) (hl : cut (xs.getD e []) r size = some l) :
    ∃ cs : List Value, cs.length = size ∧ RelL ν l cs ∧ ∀ j v, cs[j]? = some v → e * sz + r + j < ys.length ∧ ys[e * sz + r + j]? = some v := by
  have hy := hr.length hs
  obtain ⟨cs, h1, h2, h3⟩ := cut_rel (hr.elem hs he) hl
  refine ⟨cs, h1, h2.grows (.ofFree ν), fun j v hv => ?_⟩
  obtain ⟨h4, h5⟩ := h3 j v hv
  have h6 : r + j < sz := by simp at h4; omega
  rw [List.getElem?_take_of_lt h6, List.getElem?_drop] at h5
  rw [Nat.add_assoc]
  exact ⟨(List.getElem?_eq_some_iff.1 h5).1, h5⟩
theorem loadIn_sound {T : TypeId} {b : Bool} {size id sz e r : Nat} (hb : tyAgg P T = some b) (hn : tySize P T = some size) (hH : Holds x ν H w)
    (hr : R1OK Q (sLoadIn b size sz e r H ν.nx (H.get id))) :
    ∃ v s, (∀ w', Ext w w' → (loadVar T ⟨ν.blk id, e * sz + r, none⟩).run P w' = .ok v w') ∧ Rel ν s v ∧ Q s H ν.nx := by
  cases hg : H.get id with
  | none => simp [hg, sLoadIn, R1OK] at hr
  | some B =>
    have hB := hH.ok id B hg
    rw [hg] at hr
    cases B with
    | obj o => simp [sLoadIn, R1OK] at hr
    | map ag ks f => simp [sLoadIn, R1OK] at hr
    | loop st pend fn nt env params assign body d => simp [sLoadIn, R1OK] at hr
    | own cs T' =>
      obtain ⟨_, c, hc, hrel⟩ := hB
      simp only [sLoadIn] at hr
      cases hcut : cut cs (e * sz + r) size with
      | none => simp [hcut, R1OK] at hr
      | some l =>
        simp only [hcut] at hr
        cases ha : aggOf b l with
        | none => simp [ha, rOf, R1OK] at hr
        | some s =>
          simp only [ha, rOf, R1OK] at hr
          obtain ⟨ds, h1, h2, h3⟩ := cut_rel hrel hcut
          obtain ⟨v, h4, h5⟩ := loadVar_sound (blk := ν.blk id) (off := e * sz + r) (w := w) hb (by rw [h1]; exact hn) (fun j v hv => by
            rw [cell?_cells hc]
            simpa using (h3 j v hv).2) h2 ha
          exact ⟨v, s, h4, h5, hr⟩
    | row s cap T' xs =>
      obtain ⟨_, hnc, hrows, ys, hrel, hones, hrow⟩ := hB
      simp only [sLoadIn] at hr
      split at hr
      · rename_i hsz
        subst hsz
        obtain ⟨he, hr⟩ := hr
        have hr := hr he
        cases hcut : cut (xs.getD e []) r size with
        | none => rw [hcut] at hr; exact hr.elim
        | some l =>
          rw [hcut] at hr
          simp only at hr
          cases ha : aggOf b l with
          | none => simp [ha, rOf, R1OK] at hr
          | some s' =>
            simp only [ha, rOf, R1OK] at hr
            obtain ⟨c, hc, _, hg2⟩ := hrow (by omega)
            obtain ⟨cs, h1, h2, h3⟩ := row_cells hrel hrows he hcut
            obtain ⟨v, h4, h5⟩ := loadVar_sound (blk := ν.blk id) (off := e * s + r) (w := w) hb (by rw [h1]; exact hn) (fun j v hv => by
              obtain ⟨q1, q2⟩ := h3 j v hv
              rw [cell?_cells hc, hg2 _ q1]; exact q2) h2 ha
            exact ⟨v, s', h4, h5, hr⟩
      · split at hr
        case isFalse => exact hr.elim
        rename_i hz
        obtain ⟨rfl, rfl, rfl, rfl⟩ := hz
        obtain ⟨he, hr⟩ := hr
        have hr2 : Q (.arr s xs) H ν.nx := hr he
        clear hr
        have hyl := hrel.length hrows
        by_cases hc0 : cap = 0
        · have hx0 : xs = [] := List.eq_nil_of_length_eq_zero (by omega)
          subst hx0
          have hs0 : size = 0 := by simpa using he
          subst hs0
          refine ⟨.agg #[], .arr s [], fun w' e' => ?_, ⟨#[], rfl, hrows, rfl, by simp⟩, hr2⟩
          have := run_loadCells_list (P := P) w' ⟨ν.blk id, 0, none⟩ [] (by simp)
          simp only [List.length_nil] at this
          simp [loadVar, run_isAgg hb, run_sizeOf hn, this]
        · obtain ⟨c, hc, hcs, hg2⟩ := hrow hc0
          have hlt : ν.blk id < w.heap.size := (Array.getElem?_eq_some_iff.1 hc).1
          have hn' : tySize P T = some ys.length := by rw [hyl, ← he]; exact hn
          refine ⟨.agg ys.toArray, .arr s xs, fun w' e' => ?_, ⟨ys.toArray, rfl, hrows, hrel, hones⟩, hr2⟩
          have := run_loadCells_list (P := P) w' ⟨ν.blk id, 0, none⟩ ys (fun j v hv => by
            have hj := (List.getElem?_eq_some_iff.1 hv).1
            rw [add_eq, cell?_heap (w := w) (e'.block _ hlt), cell?_cells hc, Nat.zero_add, hg2 j hj]; exact hv)
          simp [loadVar, run_isAgg hb, run_sizeOf hn', this]
theorem load_sound {T : TypeId} {s : Option SV} {y : Value} (hH : Holds x ν H w) (hs : ∀ u, s = some u → Rel ν u y) (hr : R1OK Q (sLoad (tyAgg P T) (tySize P T) H ν.nx s)) :
    OpQ P ν w (do pure (.value (← Instr.loadAt T y))) fun s => Q s H ν.nx := by
  unfold sLoad at hr
  split at hr
  · have hs := hs _ rfl
    simp only [Rel] at hs
    obtain ⟨_, rfl⟩ := hs
    cases hb : tyAgg P T with
    | none => simp [hb, R1OK] at hr
    | some b =>
      cases hn : tySize P T with
      | none => simp [hb, hn, R1OK] at hr
      | some n =>
        simp only [hb, hn] at hr
        obtain ⟨v, s, h1, h2, h3⟩ := loadIn_sound hb hn hH hr
        exact ⟨v, s, fun w' e => by simp [Instr.loadAt, Instr.sureAddr, h1 w' e], h2, h3⟩
  · rename_i x r
    have hs := hs _ rfl
    simp only [Rel] at hs
    obtain ⟨b, o, c, ys, rfl, hro, hrel, hseg⟩ := hs
    cases hb : tyAgg P T with
    | none => simp [hb, R1OK] at hr
    | some b' =>
      cases hn : tySize P T with
      | none => simp [hb, hn, R1OK] at hr
      | some n =>
        simp only [hb, hn] at hr
        cases hcut : cut x r n with
        | none => simp [hcut, R1OK] at hr
        | some l =>
          simp only [hcut] at hr
          cases ha : aggOf b' l with
          | none => simp [ha, rOf, R1OK] at hr
          | some s' =>
            simp only [ha, rOf, R1OK] at hr
            obtain ⟨T', fz, hc⟩ := hH.ro b c hro
            obtain ⟨cs, h1, h2, h3⟩ := cut_rel hrel hcut
            obtain ⟨v, h4, h5⟩ := loadVar_sound (blk := b) (off := o + r) (w := w) hb (by rw [h1]; exact hn) (fun j v hv => by
              obtain ⟨q1, q2⟩ := h3 j v hv
              rw [cell?_cells hc, Nat.add_assoc, hseg _ q1]; exact q2) (h2.grows (.ofFree ν)) ha
            exact ⟨v, s', fun w' e => by simp [Instr.loadAt, Instr.sureAddr, h4 w' e], h5, hr⟩
  · exact hr.elim
theorem splice_get {α : Type} (l vs : List α) (o k : Nat) (h : o + vs.length ≤ l.length) :
    (l.take o ++ vs ++ l.drop (o + vs.length))[k]? = if o ≤ k ∧ k < o + vs.length then vs[k - o]? else l[k]? := by
  have ho : (l.take o).length = o := by simp; omega
  by_cases h1 : k < o
  · rw [List.append_assoc, List.getElem?_append_left (by omega), List.getElem?_take_of_lt h1, if_neg (by omega)]
  · by_cases h2 : k < o + vs.length
    · rw [List.getElem?_append_left (by simp; omega), List.getElem?_append_right (by omega), ho, if_pos ⟨by omega, h2⟩]
    · rw [List.getElem?_append_right (by simp; omega), List.getElem?_drop, if_neg (by omega)]
      congr 1
      simp
      omega
theorem splice_in {α : Type} {ys zs : List α} {a r n : Nat} (h1 : a + n ≤ ys.length) (h2 : r + zs.length ≤ n) (j : Nat) :
    (ys.take a ++ (((ys.drop a).take n).take r ++ zs ++ ((ys.drop a).take n).drop (r + zs.length) ++ ys.drop (a + n)))[j]? = if a + r ≤ j ∧ j < a + r + zs.length then zs[j - (a + r)]? else ys[j]? := by
  have e : ys.take a ++ (((ys.drop a).take n).take r ++ zs ++ ((ys.drop a).take n).drop (r + zs.length) ++ ys.drop (a + n)) = ys.take (a + r) ++ zs ++ ys.drop (a + r + zs.length) := by
    have e1 : ys.take (a + r) = ys.take a ++ ((ys.drop a).take n).take r := by
      rw [List.take_take, Nat.min_eq_left (by omega), List.take_add]
    have e2 : ys.drop (a + r + zs.length) = ((ys.drop a).take n).drop (r + zs.length) ++ ys.drop (a + n) := by
      rw [List.drop_take, List.drop_drop, ← Nat.add_assoc]
      have : ys.drop (a + n) = (ys.drop (a + r + zs.length)).drop (n - (r + zs.length)) := by rw [List.drop_drop]; congr 1; omega
      rw [this, List.take_append_drop]
    rw [e1, e2]; simp
  rw [e, splice_get ys zs (a + r) j (by omega)]
theorem fix_setRow (w : World) (g : Nat) (cs : Array Value) : Fix w (w.setRow g cs) := ⟨rfl, rfl, rfl⟩
theorem setRow_other (w : World) (g k : Nat) (cs : Array Value) (h : k ≠ g) : (w.setRow g cs).heap[k]? = w.heap[k]? := by
  simp only [World.setRow, Array.getElem?_modify]
  rw [if_neg (by omega)]
theorem storeVar_run {T : TypeId} {y : Value} {blk o : Nat} {c : Array Value} {U : TypeId} (hn : tySize P T = some y.cells.size) (hc : w.heap[blk]? = some (.cells c U (0, 0)))
    (ho : o + y.cells.size ≤ c.size) (h1 : ∀ v ∈ y.cells.toList, v.oneCell' = true) :
    (storeVar T ⟨blk, o, none⟩ y).run P w = .ok () (w.setRow blk (c.toList.take o ++ y.cells.toList ++ c.toList.drop (o + y.cells.toList.length)).toArray) := by
  have := run_storeCells_at (P := P) blk o U y.cells.toList 0 c w hc (by simpa using ho) h1
  simp only [Nat.add_zero] at this
  simp [storeVar, run_sizeOf hn, this]
theorem idFree_free : ∀ {s : SV} {y : Value}, idFree s = true → Rel ν s y → Rel ν.free s y
  | .v _, _, _, h => h
  | .rd .., _, _, h => h
  | .rp .., _, _, h => h
  | .ptr .., _, h, _ => by simp [idFree] at h
  | .sl .., _, h, _ => by simp [idFree] at h
  | .arr .., _, h, _ => by simp [idFree] at h
  | .mp .., _, h, _ => by simp [idFree] at h
  | .yl .., _, h, _ => by simp [idFree] at h
  | .fn .., _, h, _ => by simp [idFree] at h
  | .agg .., _, h, _ => by simp [idFree] at h
  | .tup .., _, h, _ => by simp [idFree] at h
theorem idFrees_free : ∀ {s : List SV} {y : List Value}, idFrees s = true → RelL ν s y → RelL ν.free s y
  | [], _, _, h => h
  | a :: s, y, hf, h => by
    simp only [idFrees, Bool.and_eq_true] at hf
    simp only [RelL] at h ⊢
    obtain ⟨y0, ys, h1, h2, h3⟩ := h
    exact ⟨y0, ys, h1, idFree_free hf.1 h2, idFrees_free hf.2 h3⟩
theorem storeIn_sound {T : TypeId} {id sz e r n : Nat} {q : SV} {z : Value} (hH : Holds x ν H w) (hq : Rel ν q z) (hna : notArr q) (hn : tySize P T = some n) (hlen : (cellsS q).length = n)
    (hr : R1OK Q (sStoreIn (cellsS q) id sz e r H ν.nx (H.get id))) : OpR P x ν w (do Instr.storeAt T (.pointer (some ⟨ν.blk id, e * sz + r, none⟩)) z; pure .skip) Q := by
  have hcells := RelL.cellsS hna hq
  have hzl : z.cells.size = n := by have := hcells.length; simp at this; omega
  rw [← hzl] at hn
  cases hg : H.get id with
  | none => simp [hg, sStoreIn, R1OK] at hr
  | some B =>
    have hB := hH.ok id B hg
    rw [hg] at hr
    cases B with
    | obj o => simp [sStoreIn, R1OK] at hr
    | map ag ks f => simp [sStoreIn, R1OK] at hr
    | loop st pend fn nt env params assign body d => simp [sStoreIn, R1OK] at hr
    | own old T' =>
      obtain ⟨hid, c, hc, hrel⟩ := hB
      simp only [sStoreIn] at hr
      cases hp : paste old (e * sz + r) (cellsS q) with
      | none => simp [hp, R1OK] at hr
      | some l =>
        simp only [hp, R1OK] at hr
        obtain ⟨hones, hr⟩ := hr
        have hr := hr hones
        obtain ⟨h1, h2⟩ := hrel.paste _ hcells hp
        have hrun := storeVar_run (P := P) (w := w) (o := e * sz + r) hn hc (by simpa using h1) (ones_cells hcells hones)
        refine ⟨undef, w.setRow (ν.blk id) (c.toList.take (e * sz + r) ++ z.cells.toList ++ c.toList.drop (e * sz + r + z.cells.toList.length)).toArray, ν, undefS, _, .inr ⟨?_, rfl⟩, .refl _, ?_, rfl, hr⟩
        · simp only [Instr.storeAt, Instr.sureAddr, Sem.run_bind, Sem.run_pure, Result.andThen_ok, hrun]
        · refine hH.write hg trivial (fun k hk => setRow_other _ _ _ _ hk) (by simp) (fix_setRow _ _ _) ⟨hid, _, setRow_heap w _ _ _ _ _ hc, ?_⟩
          simpa using h2
    | row s cap T' xs =>
      obtain ⟨hid, hnc, hrows, ys, hrel, hys, hrow⟩ := hB
      simp only [sStoreIn] at hr
      split at hr
      case isFalse => exact hr.elim
      rename_i hsz
      subst hsz
      split at hr
      case isFalse => exact hr.elim
      rename_i hfree
      cases hp : paste (xs.getD e []) r (cellsS q) with
      | none => rw [hp] at hr; exact hr.elim
      | some l =>
        rw [hp] at hr
        obtain ⟨⟨he, hones⟩, hr⟩ := hr
        have hr : Q undefS (H.set id (.row s cap T' (xs.set e l))) ν.nx := hr ⟨he, hones⟩
        obtain ⟨c, hc, hcs, hg2⟩ := hrow (by omega)
        have hyl := hrel.length hrows
        have helem := hrel.elem hrows he
        obtain ⟨h1, h2⟩ := helem.paste r (idFrees_free hfree hcells) hp
        have hfe : (xs.getD e []).length = s := hrows _ (getD_mem he)
        have hmul : e * s + s ≤ xs.length * s := by
          have : (e + 1) * s ≤ xs.length * s := Nat.mul_le_mul_right _ (by omega)
          rw [Nat.add_mul] at this; omega
        have hmul2 : xs.length * s ≤ cap * s := Nat.mul_le_mul_right _ hnc
        have helen : ((ys.drop (e * s)).take s).length = s := by simp; omega
        rw [helen] at h1
        have hone := ones_cells hcells hones
        have hbnd : e * s + r + z.cells.size ≤ c.size := by rw [hcs]; simp at h1; omega
        have hrun := storeVar_run (P := P) (w := w) (o := e * s + r) hn hc hbnd hone
        have hll : l.length = s := by
          have := h2.length
          rw [List.length_append, List.length_append, List.length_take (i := r), List.length_drop (i := r + z.cells.toList.length), helen] at this
          omega
        refine ⟨undef, w.setRow (ν.blk id) (c.toList.take (e * s + r) ++ z.cells.toList ++ c.toList.drop (e * s + r + z.cells.toList.length)).toArray, ν, undefS, _, .inr ⟨?_, rfl⟩, .refl _, ?_, rfl, hr⟩
        · simp only [Instr.storeAt, Instr.sureAddr, Sem.run_bind, Sem.run_pure, Result.andThen_ok, hrun]
        · have hset := hrel.set hrows he h2 hll
          refine hH.write hg (by simp only [Blk.real]; omega) (fun k hk => setRow_other _ _ _ _ hk) (by simp) (fix_setRow _ _ _) ⟨hid, by simpa using hnc, hrows.set hll, _, hset, fun v hv => ?_, fun hcap => ⟨_, setRow_heap w _ _ _ _ _ hc, ?_, fun j hj => ?_⟩⟩
          · simp only [List.mem_append] at hv
            rcases hv with hv | ((hv | hv) | hv) | hv
            · exact hys v (List.mem_of_mem_take hv)
            · exact hys v (List.mem_of_mem_drop (List.mem_of_mem_take (List.mem_of_mem_take hv)))
            · exact hone v hv
            · exact hys v (List.mem_of_mem_drop (List.mem_of_mem_take (List.mem_of_mem_drop hv)))
            · exact hys v (List.mem_of_mem_drop hv)
          · simp; rw [hcs] at hbnd ⊢; omega
          · have hzl2 : z.cells.toList.length = z.cells.size := by simp
            have hsp := splice_get c.toList z.cells.toList (e * s + r) j (by rw [hzl2]; simpa using hbnd)
            simp only [List.getElem?_toArray, hsp]
            have hjy : j < ys.length := by
              simp only [List.length_append, List.length_take, List.length_drop, Array.length_toList] at hj h1
              omega
            have := splice_in (ys := ys) (zs := z.cells.toList) (a := e * s) (r := r) (n := s) (by omega) (by simpa using h1) j
            rw [this]
            split
            · rfl
            · rw [← hg2 j hjy]; simp
theorem store_sound {T : TypeId} {s u : Option SV} {y z : Value} (hH : Holds x ν H w) (hs : ∀ q, s = some q → Rel ν q y) (hu : ∀ q, u = some q → Rel ν q z)
    (hr : R1OK Q (sStore (tySize P T) H ν.nx s u)) : OpR P x ν w (do Instr.storeAt T y z; pure .skip) Q := by
  unfold sStore at hr
  split at hr
  case h_2 => exact hr.elim
  rename_i id sz e r q
  have hs := hs _ rfl
  have hq := hu _ rfl
  simp only [Rel] at hs
  obtain ⟨_, rfl⟩ := hs
  cases hn : tySize P T with
  | none => rw [hn] at hr; exact hr.elim
  | some n =>
    rw [hn] at hr
    simp only at hr
    split at hr
    · rename_i s ys
      split at hr
      case isFalse => exact hr.elim
      rename_i hz
      obtain ⟨rfl, rfl, rfl⟩ := hz
      unfold sStoreArr at hr
      split at hr
      case h_2 => exact hr.elim
      rename_i s' cap T' xs hg
      split at hr
      case isFalse => exact hr.elim
      rename_i hss
      subst hss
      obtain ⟨⟨h1, h2, h3⟩, hr⟩ := hr
      have hr : Q undefS (H.set id (.row s cap T' ys)) ν.nx := hr ⟨h1, h2, h3⟩
      obtain ⟨hid, hnc, hrows, zs, hrel, hzs, hrow⟩ := hH.ok id _ hg
      obtain ⟨c, hc, hcs, hg2⟩ := hrow h3
      simp only [Rel] at hq
      obtain ⟨cz, rfl, k1, k2, k3⟩ := hq
      have hcz : cz.toList.length = cap * s := by rw [k2.length k1, h1]
      have hcz' : cz.size = cap * s := by simpa using hcz
      have hcells : (Value.agg cz).cells = cz := rfl
      have hrun := storeVar_run (P := P) (w := w) (o := 0) (T := T) (y := .agg cz) (by rw [hcells, hcz', ← h2]; exact hn) hc (by rw [hcells, hcz', hcs]; omega) (by rw [hcells]; exact k3)
      refine ⟨undef, w.setRow (ν.blk id) (c.toList.take 0 ++ (Value.agg cz).cells.toList ++ c.toList.drop (0 + (Value.agg cz).cells.toList.length)).toArray, ν, undefS, _, .inr ⟨?_, rfl⟩, .refl _, ?_, rfl, hr⟩
      · simp only [Instr.storeAt, Instr.sureAddr, Sem.run_bind, Sem.run_pure, Result.andThen_ok, hrun, Nat.zero_mul, Nat.add_zero]
      · rw [hcells]
        have e1 : (c.toList.take 0 ++ cz.toList ++ c.toList.drop (0 + cz.toList.length)).toArray = cz := by
          apply Array.ext'
          rw [List.drop_of_length_le (by simp; omega)]; simp
        rw [e1]
        exact hH.write hg h3 (fun k hk => setRow_other _ _ _ _ hk) (by simp) (fix_setRow _ _ _) ⟨hid, by omega, k1, cz.toList, k2, k3, fun _ => ⟨cz, setRow_heap w _ _ _ _ _ hc, hcz', fun j hj => by simp⟩⟩
    · rename_i hna
      split at hr
      case isFalse => exact hr.elim
      rename_i hlen
      refine storeIn_sound hH hq ?_ hn hlen hr
      unfold notArr
      split
      · rename_i s ys; exact (hna s ys rfl).elim
      · trivial
theorem newRow_sound {cells : Array Value} {l : List SV} {T : TypeId} {s : SV} (hH : Holds x ν H w) (hl : RelL ν l cells.toList) (hQ : Q s ((ν.nx, .own l T) :: H) (ν.nx + 1))
    {m : Sem Next} {v : Value} (hm : m.run P w = .ok (.value v) { w with heap := w.heap.push (.cells cells T) }) (hs : Rel (ν.name w.heap.size) s v) : OpR P x ν w m Q := by
  refine ⟨v, _, ν.name w.heap.size, s, _, .inl hm, Grows.name _ _, hH.push (b := .own l T) (o := .cells cells T) rfl ⟨rfl, rfl, rfl⟩ ?_, hs, hQ⟩
  exact ⟨Nat.lt_succ_self _, cells, by rw [Nm.name_blk]; simp, hl.grows (Grows.name _ _)⟩
theorem rel_name_ptr (w : World) : Rel (ν.name w.heap.size) (.ptr ν.nx 0 0 0) (.pointer (some ⟨w.heap.size, 0, none⟩)) := by
  simp only [Rel, Nm.name_blk]
  exact ⟨Nat.lt_succ_self _, by simp⟩
theorem Holds.pushRow {w' : World} {sz C : Nat} {e : TypeId} {xs : List (List SV)} {ys zs : List Value} {cells : Array Value} (h : Holds x ν H w) (hrows : Rows sz xs) (hrel : RelLL ν.free xs ys) (hones : ∀ v ∈ ys, v.oneCell' = true) (hC : xs.length ≤ C)
    (hc : cells.toList = ys ++ zs) (hzs : zs.length = (C - xs.length) * sz) (hh : w'.heap = w.heap.push (.cells cells e)) (hf : Fix w w') :
    Holds x (ν.name w.heap.size) ((ν.nx, .row sz C e xs) :: H) w' := by
  have hyl := hrel.length hrows
  refine h.push hh hf ⟨Nat.lt_succ_self _, hC, hrows, ys, hrel.grows (Grows.name _ _).free, hones, fun _ => ⟨cells, ?_, ?_, fun j hj => ?_⟩⟩
  · rw [Nm.name_blk, hh]; simp
  · rw [← Array.length_toList, hc, List.length_append, hyl, hzs, ← Nat.add_mul]; congr 1; omega
  · rw [← Array.getElem?_toList, hc, List.getElem?_append_left hj]
theorem alloc0_sound {T : TypeId} (hH : Holds x ν H w) (hr : R1OK Q (sAlloc0 (tyZero P T) T H ν.nx)) : OpR P x ν w (do pure (.value (← Instr.alloc T true (.tuple #[])))) Q := by
  cases hz : tyZero P T with
  | none => simp [hz, sAlloc0, R1OK] at hr
  | some cs =>
    simp only [hz, sAlloc0, rNew, R1OK] at hr
    obtain ⟨z, h1, h2⟩ := run_zeroValue hz w
    refine newRow_sound (cells := z.cells) hH (by rw [h1]; exact RelL.svs cs) hr ?_ (rel_name_ptr w)
    simp [Instr.alloc, h2, newVar, newRow]
theorem sameZ_eq {a b : Value} (h : sameZ a b = true) : a = b := by
  unfold sameZ at h
  split at h
  · simp only [Bool.and_eq_true, decide_eq_true_eq] at h; rw [h.1, h.2]
  · simp only [beq_iff_eq] at h; rw [h]
  · rfl
  · rfl
  · rename_i a b
    simp only [Bool.and_eq_true, decide_eq_true_eq] at h
    have h1 : a.data = b.data := by rw [Array.eq_empty_of_size_eq_zero h.1, Array.eq_empty_of_size_eq_zero h.2]
    cases a; cases b; simp only at h1; rw [h1]
  · exact absurd h (by simp)
theorem sameZs_eq : ∀ {l m : List Value}, sameZs l m = true → l = m
  | [], [], _ => rfl
  | a :: l, b :: m, h => by
    simp only [sameZs, Bool.and_eq_true] at h
    rw [sameZ_eq h.1, sameZs_eq h.2]
  | [], _ :: _, h => by simp [sameZs] at h
  | _ :: _, [], h => by simp [sameZs] at h
theorem relLL_replicate (zs : List Value) : ∀ n, RelLL ν (List.replicate n (svs zs)) (repeatL zs n)
  | 0 => rfl
  | n + 1 => by
    simp only [List.replicate_succ, RelLL, repeatL]
    exact ⟨zs, _, rfl, RelL.svs zs, relLL_replicate zs n⟩
theorem repeatL_mem {α : Type} {l : List α} {a : α} : ∀ {n : Nat}, a ∈ repeatL l n → a ∈ l
  | 0, h => by simp [repeatL] at h
  | n + 1, h => by
    simp only [repeatL, List.mem_append] at h
    exact h.elim id repeatL_mem
theorem rows_replicate {sz : Nat} {zs : List Value} (h : zs.length = sz) (n : Nat) : Rows sz (List.replicate n (svs zs)) := fun y hy => by
  rw [(List.mem_replicate.1 hy).2]; simpa [svs] using h
theorem tyArr_facts {T : TypeId} {n sz : Nat} {zs : List Value} (ha : tyArr P T = some (n, sz, zs)) : ∃ e, P.underlying T = some (.array n e) ∧ tySize P e = some sz ∧ zs.length = sz ∧ zs.all (·.oneCell') = true ∧ tyZero P T = some (repeatL zs n) := by
  unfold tyArr at ha
  split at ha
  case h_2 => exact absurd ha (by simp)
  split at ha
  case h_2 => exact absurd ha (by simp)
  split at ha
  case isFalse => exact absurd ha (by simp)
  rename_i n' e hu _ _ _ sz' zs' z h1 h2 h3 hcond
  simp only [Option.some.injEq, Prod.mk.injEq] at ha
  obtain ⟨rfl, rfl, rfl⟩ := ha
  obtain ⟨c1, c2, c3, c4, c5⟩ := hcond
  exact ⟨e, hu, h1, c3, c4, by rw [h3, sameZs_eq c5]⟩
theorem alloc_sound {T : TypeId} (hH : Holds x ν H w) (hr : R1OK Q (sAlloc (tyArr P T) (tyZero P T) T H ν.nx)) : OpR P x ν w (do pure (.value (← Instr.alloc T true (.tuple #[])))) Q := by
  unfold sAlloc at hr
  split at hr
  case h_2 => exact alloc0_sound hH hr
  rename_i n sz zs ha
  have hr : Q (.ptr ν.nx 0 0 0) ((ν.nx, .row sz n T (List.replicate n (svs zs))) :: H) (ν.nx + 1) := hr
  obtain ⟨e, hu, h1, c3, c4, h3⟩ := tyArr_facts ha
  obtain ⟨zv, k1, k2⟩ := run_zeroValue h3 w
  have hrun : (do pure (.value (← Instr.alloc T true (.tuple #[]))) : Sem Next).run P w = .ok (.value (.pointer (some ⟨w.heap.size, 0, none⟩))) { w with heap := w.heap.push (.cells zv.cells T) } := by
    simp [Instr.alloc, k2, newVar, newRow]
  refine ⟨_, _, ν.name w.heap.size, .ptr ν.nx 0 0 0, _, .inl hrun, Grows.name _ _, ?_, rel_name_ptr w, hr⟩
  refine hH.pushRow (zs := []) (ys := repeatL zs n) (rows_replicate c3 n) (relLL_replicate _ _) (fun v hv => (List.all_eq_true.1 c4) v (repeatL_mem hv)) (by simp) (by rw [k1]; simp) (by simp) rfl ⟨rfl, rfl, rfl⟩
theorem box_sound {T : TypeId} {s : Option SV} {y : Value} (hH : Holds x ν H w) (hs : ∀ q, s = some q → Rel ν q y) (hr : R1OK Q (sBox (tyArr P T) s T H ν.nx)) :
    OpR P x ν w (do pure (.value (← Instr.box T y))) Q := by
  unfold sBox at hr
  split at hr
  case h_2 => exact hr.elim
  rename_i q
  split at hr
  case isTrue =>
    unfold sBoxA at hr
    split at hr
    case h_2 => exact hr.elim
    rename_i sz xs _
    split at hr
    case h_2 => exact hr.elim
    rename_i n sz' zs ha
    split at hr
    case isFalse => exact hr.elim
    obtain ⟨hn, hr⟩ := hr
    have hr : Q (.ptr ν.nx 0 0 0) ((ν.nx, .row sz n T xs) :: H) (ν.nx + 1) := hr hn
    have hy := hs _ rfl
    simp only [Rel] at hy
    obtain ⟨c, rfl, hrows, hrel, hones⟩ := hy
    have hrun : (do pure (.value (← Instr.box T (.agg c))) : Sem Next).run P w = .ok (.value (.pointer (some ⟨w.heap.size, 0, none⟩))) { w with heap := w.heap.push (.cells c T) } := by
      simp [Instr.box, newVar, newRow, Value.cells]
    refine ⟨_, _, ν.name w.heap.size, .ptr ν.nx 0 0 0, _, .inl hrun, Grows.name _ _, ?_, rel_name_ptr w, hr⟩
    exact hH.pushRow (zs := []) (ys := c.toList) hrows hrel hones (by omega) (by simp) (by rw [hn]; simp) rfl ⟨rfl, rfl, rfl⟩
  rename_i hna
  refine newRow_sound (cells := y.cells) hH (RelL.cellsS ?_ (hs q rfl)) hr ?_ (rel_name_ptr w)
  · cases q <;> first | trivial | (exact (hna rfl).elim)
  · simp [Instr.box, newVar, newRow]
end
end Go.Sy

/- Structs and slices that are built of parts; the executor's steps are the machine's. No condition. -/
import Derived.Test.YtnjgmjcokcfmkaaDoorSyW
namespace Go.Sy
open Go
set_option linter.unusedSimpArgs false
set_option linter.unusedVariables false

theorem fold_set (off : Nat) : ∀ (vs : List Value) (k : Nat) (c : Array Value), off + k + vs.length ≤ c.size →
    ((vs.zipIdx k).foldl (fun cs (x : Value × Nat) => cs.setIfInBounds (off + x.2) x.1) c).toList = c.toList.take (off + k) ++ vs ++ c.toList.drop (off + k + vs.length)
  | [], k, c, h => by simp
  | v :: vs, k, c, h => by
    have ih := fold_set off vs (k + 1) (c.setIfInBounds (off + k) v) (by simp at h ⊢; omega)
    simp only [List.zipIdx_cons, List.foldl_cons]
    rw [ih]
    have := list_seg_step c.toList (off + k) v vs (by simp at h ⊢; omega)
    simp only [Array.toList_setIfInBounds, List.length_cons]
    rw [← this]
    simp only [Nat.add_assoc, Nat.add_comm vs.length 1]

theorem fill_sound {ν : Nm} {places : List (Nat × Nat)} {place : Nat → Option (Nat × Nat)} (hp : ∀ i q, places[i]? = some q → place i = some q) :
    ∀ (ps : List (Nat × SV)) (qs : List (Nat × Value)) (cs : List SV) (c : Array Value) (r : List SV),
      ps.length = qs.length → (∀ (k : Nat) i s, ps[k]? = some (i, s) → ∃ v, qs[k]? = some (i, v) ∧ Rel ν s v) → RelL ν cs c.toList → fillS places ps cs = some r →
      ∃ c', Instr.fill place c qs = some c' ∧ RelL ν r c'.toList
  | [], [], cs, c, r, _, _, hc, h => by
    simp only [fillS, Option.some.injEq] at h; subst h
    exact ⟨c, by simp [Instr.fill], hc⟩
  | [], _ :: _, _, _, _, hl, _, _, _ => by simp at hl
  | _ :: _, [], _, _, _, hl, _, _, _ => by simp at hl
  | (i, s) :: ps, (i', v) :: qs, cs, c, r, hl, hrel, hc, h => by
    obtain ⟨v', h1, h2⟩ := hrel 0 i s rfl
    simp only [List.getElem?_cons_zero, Option.some.injEq, Prod.mk.injEq] at h1
    obtain ⟨rfl, rfl⟩ := h1
    simp only [fillS] at h
    split at h
    case h_2 => exact absurd h (by simp)
    rename_i o n hq
    split at h
    case isFalse => exact absurd h (by simp)
    rename_i hn
    obtain ⟨hna, hn⟩ := hn
    split at h
    case h_2 => exact absurd h (by simp)
    rename_i cs' hpaste
    have hcells := RelL.cellsS (s := s) (by cases s <;> first | trivial | (simp [isArr] at hna)) h2
    have hvl : v.cells.size = n := by have := hcells.length; simp at this; omega
    obtain ⟨h3, h4⟩ := hc.paste o hcells hpaste
    obtain ⟨c', h5, h6⟩ := fill_sound hp ps qs cs' (c.toList.take o ++ v.cells.toList ++ c.toList.drop (o + v.cells.toList.length)).toArray r (by simpa using hl)
      (fun k j s' hk => hrel (k + 1) j s' (by simpa using hk)) (by simpa using h4) h
    refine ⟨c', ?_, h6⟩
    simp only [Instr.fill, hp _ _ hq]
    rw [if_neg (by simp [hvl]; simp at h3; omega)]
    rw [← h5]
    congr 1
    apply Array.ext'
    have := fold_set o v.cells.toList 0 c (by simp at h3 ⊢; omega)
    simp only [Nat.add_zero] at this
    rw [← this]
    have hz : v.cells.zipIdx.toList = v.cells.toList.zipIdx := by simp
    rw [← hz, Array.foldl_toList]

section
variable {P : Program} {x : Ctx} {ν : Nm} {H : Heap} {w : World} {Q : SV → Heap → Nat → Prop}

theorem evps_rel {gl : Gl} (hg : GlOK gl ν) {nt : Nat} {env : Env} {a : Act} (h : RelE ν nt env a.tmps) : ∀ {xs : List (Nat × Operand)} {ps : List (Nat × SV)}, evps gl env xs = some ps →
    ps.length = xs.length ∧ ∀ (k : Nat) i s, ps[k]? = some (i, s) → ∃ v, (xs.map fun (i, x) => (i, a.eval x))[k]? = some (i, v) ∧ Rel ν s v
  | [], ps, hs => by simp [evps] at hs; subst hs; simp
  | (j, x) :: xs, ps, hs => by
    simp only [evps] at hs
    cases h1 : ev gl env x with
    | none => simp [h1] at hs
    | some s =>
      cases h2 : evps gl env xs with
      | none => simp [h1, h2] at hs
      | some t =>
        simp only [h1, h2, Option.some.injEq] at hs
        subst hs
        obtain ⟨k1, k2⟩ := evps_rel hg h h2
        refine ⟨by simp [k1], fun k i u hk => ?_⟩
        cases k with
        | zero =>
          simp only [List.getElem?_cons_zero, Option.some.injEq, Prod.mk.injEq] at hk
          obtain ⟨rfl, rfl⟩ := hk
          exact ⟨_, rfl, ev_rel hg h h1⟩
        | succ k => simpa using k2 k i u (by simpa using hk)

theorem run_zeroValue' {T : TypeId} {cs : List Value} (h : tyZero P T = some cs) : ∃ z, z.cells.toList = cs ∧ ∀ w, (zeroValue T).run P w = .ok z w := by
  simp only [tyZero, Option.map_eq_some_iff, Option.bind_eq_some_iff] at h
  obtain ⟨z, ⟨i, h1, h2⟩, h3⟩ := h
  exact ⟨z, h3, fun w => by simp [zeroValue, typeInfo, h1, h2]⟩

theorem build0_sound {gl : Gl} (hg : GlOK gl ν) {T : TypeId} {nt : Nat} {env : Env} {a : Act} {parts : Array (Nat × Operand)} (hE : RelE ν nt env a.tmps)
    (hr : R1OK Q (sBuild0 (tyPlaces P T) (tyZero P T) H ν.nx (evps gl env parts.toList))) :
    OpQ P ν w (do pure (.value (← Instr.build T (parts.map fun (i, x) => (i, a.eval x))))) fun s => Q s H ν.nx := by
  unfold sBuild0 at hr
  split at hr
  case h_2 => exact hr.elim
  rename_i ps hps
  split at hr
  case h_2 => exact hr.elim
  rename_i pl cs hpl hz
  split at hr
  case h_2 => exact hr.elim
  rename_i c hc
  obtain ⟨k1, k2⟩ := evps_rel hg hE hps
  obtain ⟨z, hz1, hz2⟩ := run_zeroValue' hz
  have hqs : ps.length = (parts.map fun (i, x) => (i, a.eval x)).toList.length := by simp [k1]
  have k2' : ∀ (k : Nat) i s, ps[k]? = some (i, s) → ∃ v, (parts.map fun (i, x) => (i, a.eval x)).toList[k]? = some (i, v) ∧ Rel ν s v := by
    intro k i s hk
    obtain ⟨v, h1, h2⟩ := k2 k i s hk
    exact ⟨v, by simpa using h1, h2⟩
  unfold tyPlaces at hpl
  split at hpl
  · rename_i fs hu
    obtain ⟨c', h3, h4⟩ := fill_sound (ν := ν) (place := (pl.toArray[·]?)) (by simp) ps _ _ z.cells c hqs k2' (by rw [hz1]; exact RelL.svs cs) hc
    refine .same (v := .agg c') ?_ (by exact ⟨c', rfl, h4⟩) hr
    have hrp := fun w => run_places (P := P) w fs.toList pl hpl
    have h3' : Instr.fill (fun x => pl[x]?) z.cells (List.map (fun x => (x.fst, a.eval x.snd)) parts.toList) = some c' := by
      simpa using h3
    simp [Instr.build, run_underlying hu, hz2, Array.mapM_eq_mapM_toList, hrp, h3']
  · rename_i n e hu
    simp only [Option.map_eq_some_iff] at hpl
    obtain ⟨s, hs, rfl⟩ := hpl
    obtain ⟨c', h3, h4⟩ := fill_sound (ν := ν) (place := fun i => some (i * s, s)) (by
      intro i q hq
      simp only [List.getElem?_map, Option.map_eq_some_iff] at hq
      obtain ⟨j, h1, rfl⟩ := hq
      obtain ⟨h2, rfl⟩ := List.getElem?_eq_some_iff.1 h1
      simp) ps _ _ z.cells c hqs k2' (by rw [hz1]; exact RelL.svs cs) hc
    refine .same (v := .agg c') ?_ (by exact ⟨c', rfl, h4⟩) hr
    have h3' : Instr.fill (fun i => some (i * s, s)) z.cells (List.map (fun x => (x.fst, a.eval x.snd)) parts.toList) = some c' := by
      simpa using h3
    simp [Instr.build, run_underlying hu, hz2, run_sizeOf hs, h3']
  · exact absurd hpl (by simp)

theorem chunk_ok (sz : Nat) : ∀ (n : Nat) (l : List SV), l.length = n * sz → (chunk sz n l).length = n ∧ Rows sz (chunk sz n l) ∧ (chunk sz n l).flatten = l
  | 0, l, h => by
    have : l = [] := List.eq_nil_of_length_eq_zero (by simpa using h)
    subst this
    exact ⟨rfl, fun x hx => by simp [chunk] at hx, rfl⟩
  | n + 1, l, h => by
    rw [Nat.add_mul, Nat.one_mul] at h
    obtain ⟨h1, h2, h3⟩ := chunk_ok sz n (l.drop sz) (by simp; omega)
    refine ⟨by simp [chunk, h1], fun x hx => ?_, by simp [chunk, h3]⟩
    simp only [chunk, List.mem_cons] at hx
    rcases hx with rfl | hx
    · simp; omega
    · exact h2 x hx
theorem svs_eq : ∀ {l m : List Value}, RelL ν (svs l) m → m = l
  | [], m, h => h
  | x :: l, m, h => by
    obtain ⟨y, ys, rfl, h1, h2⟩ := h
    have h1 : y = x := h1
    rw [h1, svs_eq h2]
theorem buildArr_run {gl : Gl} (hg : GlOK gl ν) {T e : TypeId} {n sz : Nat} {cs : List Value} {nt : Nat} {env : Env} {a : Act} {parts : Array (Nat × Operand)} (hE : RelE ν nt env a.tmps) (hu : P.underlying T = some (.array n e)) (hs : tySize P e = some sz) (hz : tyZero P T = some cs)
    {ps : List (Nat × SV)} (hps : evps gl env parts.toList = some ps) {c : List SV} (hc : fillS ((List.range n).map fun i => (i * sz, sz)) ps (svs cs) = some c) :
    ∃ c' : Array Value, RelL ν c c'.toList ∧ ∀ w : World, (do pure (.value (← Instr.build T (parts.map fun (i, x) => (i, a.eval x)))) : Sem Next).run P w = .ok (.value (.agg c')) w := by
  obtain ⟨k1, k2⟩ := evps_rel hg hE hps
  obtain ⟨z, hz1, hz2⟩ := run_zeroValue' hz
  have hqs : ps.length = (parts.map fun (i, x) => (i, a.eval x)).toList.length := by simp [k1]
  have k2' : ∀ (k : Nat) i s, ps[k]? = some (i, s) → ∃ v, (parts.map fun (i, x) => (i, a.eval x)).toList[k]? = some (i, v) ∧ Rel ν s v := by
    intro k i s hk
    obtain ⟨v, h1, h2⟩ := k2 k i s hk
    exact ⟨v, by simpa using h1, h2⟩
  obtain ⟨c', h3, h4⟩ := fill_sound (ν := ν) (place := fun i => some (i * sz, sz)) (by
      intro i q hq
      simp only [List.getElem?_map, Option.map_eq_some_iff] at hq
      obtain ⟨j, h1, rfl⟩ := hq
      obtain ⟨h2, rfl⟩ := List.getElem?_eq_some_iff.1 h1
      simp) ps _ _ z.cells c hqs k2' (by rw [hz1]; exact RelL.svs cs) hc
  have h3' : Instr.fill (fun i => some (i * sz, sz)) z.cells (List.map (fun x => (x.fst, a.eval x.snd)) parts.toList) = some c' := by
    simpa using h3
  exact ⟨c', h4, fun w => by simp [Instr.build, run_underlying hu, hz2, run_sizeOf hs, h3']⟩
theorem build_sound {gl : Gl} (hg : GlOK gl ν) {T : TypeId} {nt : Nat} {env : Env} {a : Act} {parts : Array (Nat × Operand)} (hE : RelE ν nt env a.tmps)
    (hr : R1OK Q (sBuild (tyArr P T) (tyPlaces P T) (tyZero P T) H ν.nx (evps gl env parts.toList))) :
    OpQ P ν w (do pure (.value (← Instr.build T (parts.map fun (i, x) => (i, a.eval x))))) fun s => Q s H ν.nx := by
  unfold sBuild at hr
  split at hr
  case h_2 => exact build0_sound hg hE hr
  rename_i n sz zs ha
  obtain ⟨e, hu, hs, c3, c4, hz⟩ := tyArr_facts ha
  have c4 := List.all_eq_true.1 c4
  unfold sBuildA at hr
  split at hr
  · rename_i hps
    obtain ⟨c', h4, hrun⟩ := buildArr_run hg hE hu hs hz hps (c := svs (repeatL zs n)) rfl
    refine .same (v := .agg c') (s := .arr sz (List.replicate n (svs zs))) hrun ⟨c', rfl, rows_replicate c3 n, ?_, ?_⟩ hr
    · have : c'.toList = repeatL zs n := svs_eq h4
      rw [this]; exact relLL_replicate _ _
    · have : c'.toList = repeatL zs n := svs_eq h4
      rw [this]; exact fun v hv => c4 v (repeatL_mem hv)
  · rename_i ps _ hps
    split at hr
    case h_2 => exact hr.elim
    rename_i pl cs hpl hz'
    split at hr
    case h_2 => exact hr.elim
    rename_i c hc
    split at hr
    case h_2 => exact hr.elim
    rename_i hfree
    obtain ⟨⟨hones, hcl⟩, hr⟩ := hr
    have hr := hr ⟨hones, hcl⟩
    simp only [tyPlaces, hu, hs, Option.map_some, Option.some.injEq] at hpl
    subst hpl
    obtain ⟨c', h4, hrun⟩ := buildArr_run hg hE hu hs hz' hps hc
    obtain ⟨q1, q2, q3⟩ := chunk_ok sz n c hcl
    exact .same (v := .agg c') (s := .arr sz (chunk sz n c)) hrun ⟨c', rfl, q2, RelLL.flat.2 (by rw [q3]; exact idFrees_free hfree h4), ones_cells h4 hones⟩ hr
  · exact hr.elim
theorem buildSlice_sound {gl : Gl} (hg : GlOK gl ν) {T : TypeId} {len nt : Nat} {env : Env} {a : Act} {parts : Array (Nat × Operand)} (hE : RelE ν nt env a.tmps) (hH : Holds x ν H w)
    (hr : R1OK Q (sBuildSlice (sliceT (P.underlying T)) (obind (tySize P) (sliceT (P.underlying T))) (obind (tyZero P) (sliceT (P.underlying T))) len H ν.nx (evps gl env parts.toList))) :
    OpR P x ν w (do pure (.value (← Instr.buildSlice T len (parts.map fun (i, x) => (i, a.eval x))))) Q := by
  have hsl : ∃ e, P.underlying T = some (.slice e) := by
    unfold sBuildSlice at hr
    split at hr
    case h_2 => exact hr.elim
    split at hr
    case h_2 => exact hr.elim
    rename_i he _ _
    unfold sliceT at he
    split at he
    · rename_i e' h; exact ⟨_, h⟩
    · exact absurd he (by simp)
  obtain ⟨e, hu⟩ := hsl
  rw [hu] at hr
  simp only [sliceT, obind] at hr
  unfold sBuildSlice at hr
  split at hr
  case h_2 => exact hr.elim
  rename_i ps hps
  split at hr
  case h_2 => exact hr.elim
  rename_i e' s cs he hs hz
  simp only [Option.some.injEq] at he
  subst he
  split at hr
  case isFalse => exact hr.elim
  rename_i hlen
  split at hr
  case h_2 => exact hr.elim
  rename_i c hc
  obtain ⟨hsmall, hr⟩ := hr
  have hr := hr hsmall
  obtain ⟨k1, k2⟩ := evps_rel hg hE hps
  obtain ⟨z, hz1, hz2⟩ := run_zeroValue hz w
  have hzs : z.cells.size = s := by rw [← hlen, ← hz1]; simp
  have hqs : ps.length = (parts.map fun (i, x) => (i, a.eval x)).toList.length := by simp [k1]
  have k2' : ∀ (k : Nat) i s, ps[k]? = some (i, s) → ∃ v, (parts.map fun (i, x) => (i, a.eval x)).toList[k]? = some (i, v) ∧ Rel ν s v := by
    intro k i s hk
    obtain ⟨v, h1, h2⟩ := k2 k i s hk
    exact ⟨v, by simpa using h1, h2⟩
  obtain ⟨c', h3, h4⟩ := fill_sound (ν := ν) (place := fun i => some (i * s, s)) (by
      intro i q hq
      simp only [List.getElem?_map, Option.map_eq_some_iff] at hq
      obtain ⟨j, h1, rfl⟩ := hq
      obtain ⟨h2, rfl⟩ := List.getElem?_eq_some_iff.1 h1
      simp) ps _ _ ((Array.range (len * s)).map (z.cells[· % z.cells.size]!)) c hqs k2' (by
        have := zeros_eq z.cells len
        rw [hzs] at this ⊢
        rw [this, hz1]; exact RelL.svs _) hc
  have hrun : (do pure (.value (← Instr.buildSlice T len (parts.map fun (i, x) => (i, a.eval x)))) : Sem Next).run P w = .ok (.value (.slice (some ⟨w.heap.size, 0, none⟩) len len)) { w with heap := w.heap.push (.cells c' e) } := by
    have h3' : Instr.fill (fun i => some (i * s, s)) ((Array.range (len * s)).map (z.cells[· % z.cells.size]!)) (List.map (fun x => (x.fst, a.eval x.snd)) parts.toList) = some c' := by
      simpa using h3
    by_cases h0 : len * s = 0
    · have h00 : (Array.range (len * s)).map (z.cells[· % z.cells.size]!) = #[] := by rw [h0]; simp
      rw [h00] at h3'
      have h3x : Instr.fill (fun i => some (i * s, s)) #[] (parts.map fun (i, x) => (i, a.eval x)).toList = some c' := by simpa using h3'
      simp only [Instr.buildSlice, Sem.run_bind, run_underlying hu, Result.andThen_ok, run_sizeOf hs]
      rw [if_neg (by omega)]
      simp only [h0, if_true, Sem.run_pure, Result.andThen_ok]
      have h01 : (Array.range 0).map (fun i => (#[] : Array Value)[i % (#[] : Array Value).size]!) = #[] := by simp
      simp only [Sem.run_bind, Sem.run_pure, Result.andThen_ok]
      rw [h01, h3x]
      simp [newRow]
    · simp only [Instr.buildSlice, Sem.run_bind, run_underlying hu, Result.andThen_ok, run_sizeOf hs]
      rw [if_neg (by omega)]
      simp [h0, h3', newRow, hz2]
  split at hr
  · rename_i hfree
    obtain ⟨⟨hones, hcl⟩, hr⟩ := hr
    have hr : Q (.sl ν.nx s 0 len len) ((ν.nx, .row s len e (chunk s len c)) :: H) (ν.nx + 1) := hr ⟨hones, hcl⟩
    refine ⟨_, _, ν.name w.heap.size, .sl ν.nx s 0 len len, _, .inl hrun, Grows.name _ _, ?_, ⟨Nat.lt_succ_self _, _, rfl, fun _ => by simp [Nm.name_blk]⟩, hr⟩
    obtain ⟨q1, q2, q3⟩ := chunk_ok s len c hcl
    refine hH.pushRow (ys := c'.toList) (zs := []) q2 (RelLL.flat.2 (by rw [q3]; exact idFrees_free hfree h4)) (ones_cells h4 hones) (by rw [q1]; exact Nat.le_refl _) (by simp) (by rw [q1]; simp) rfl ⟨rfl, rfl, rfl⟩
  · simp only [rNew, R1OK] at hr
    refine newRow_sound (cells := c') hH h4 hr (v := .slice (some ⟨w.heap.size, 0, none⟩) len len) hrun ?_
    exact ⟨Nat.lt_succ_self _, _, rfl, fun _ => by simp [Nm.name_blk]⟩

/-- Each operation. -/
theorem sop_sound {nt : Nat} {env : Env} {a : Act} {o : Oper}  (hE : RelE ν nt env a.tmps) (hH : Holds x ν H w) (hr : R1OK Q (sop P x.gl env H ν.nx o.op)) : OpR P x ν w (execOp a.eval o) Q := by
  have he : ∀ (y : Operand) q, ev x.gl env y = some q → Rel ν q (a.eval y) := fun y q h => ev_rel hH.glOK hE h
  have hes : ∀ (ys : List Operand) q, evs x.gl env ys = some q → RelL ν q (ys.map a.eval) := fun ys q h => evs_rel hH.glOK hE h
  have hopt : ∀ (y : Option Operand) (r : Option Int), optI (y.map (ev x.gl env)) = some r → (r = none ∧ y.map a.eval = none) ∨ ∃ k i, r = some i ∧ y.map a.eval = some (.int k i) := by
    intro y r h
    refine optI_rel (ν := ν) (fun u hu => ?_) (fun hn => by cases y <;> simp_all) r h
    cases y with
    | none => simp at hu
    | some y =>
      simp only [Option.map_some, Option.some.injEq] at hu
      subst hu
      exact ⟨_, rfl, fun s hs => he y s hs⟩
  cases hop : o.op with
  | move y => rw [hop] at hr; simp only [execOp, hop]; exact (move_sound (he y) hr).toR hH
  | assign y => rw [hop] at hr; simp only [execOp, hop]; exact (move_sound (he y) hr).toR hH
  | pick c y z => rw [hop] at hr; simp only [execOp, hop]; exact (pick_sound (he c) (he y) (he z) hr).toR hH
  | alloc T => rw [hop] at hr; simp only [execOp, hop]; exact alloc_sound hH hr
  | box T y => rw [hop] at hr; simp only [execOp, hop]; exact box_sound hH (he y) hr
  | build T ps => rw [hop] at hr; simp only [execOp, hop]; exact (build_sound hH.glOK hE hr).toR hH
  | buildSlice T n ps => rw [hop] at hr; simp only [execOp, hop]; exact buildSlice_sound hH.glOK hE hH hr
  | load T y => rw [hop] at hr; simp only [execOp, hop]; exact (load_sound hH (he y) hr).toR hH
  | store T y z => rw [hop] at hr; simp only [execOp, hop]; exact store_sound hH (he y) (he z) hr
  | nilCheck y => rw [hop] at hr; exact (nil_sound hop rfl (he y) hr).toR hH
  | binOp op t y z u => rw [hop] at hr; simp only [execOp, hop]; exact (bin_sound (he y) (he z) hr).toR hH
  | unOp op t y => rw [hop] at hr; simp only [execOp, hop]; exact (un_sound (he y) hr).toR hH
  | convert s d y =>
    rw [hop] at hr; simp only [execOp, hop]
    simp only [sop] at hr
    split at hr
    · exact (conv_sound hH ⟨_, by assumption⟩ (he y) hr).toR hH
    · exact hr.elim
  | makeFunc fn f c =>
    rw [hop] at hr; simp only [execOp, hop]
    exact (makeFunc_sound (fun q hq => by simpa using hes _ q hq) (fun q hq => by simpa using hes _ q hq) hr).toR hH
  | slice t y lo hi mx => rw [hop] at hr; simp only [execOp, hop]; exact (slice_sound (he y) (hopt lo) (hopt hi) (hopt mx) hr).toR hH
  | fieldAddr t y f => rw [hop] at hr; simp only [execOp, hop]; exact (fieldAddr_sound (he y) hr).toR hH
  | field t y f => rw [hop] at hr; simp only [execOp, hop]; exact (field_sound (he y) hr).toR hH
  | indexAddr t y i => rw [hop] at hr; simp only [execOp, hop]; exact (indexAddr_sound (he y) (he i) hr).toR hH
  | index t y i => rw [hop] at hr; simp only [execOp, hop]; exact (index_sound (he y) (he i) hr).toR hH
  | extract y i => rw [hop] at hr; simp only [execOp, hop]; exact (extract_sound (he y) hr).toR hH
  | call c =>
    rw [hop] at hr
    obtain ⟨cal, args, tys⟩ := c
    cases cal with
    | builtin b =>
      have hx : ∃ consts, execOp a.eval o = builtin b tys o.type consts (args.map a.eval) := ⟨_, by simp only [execOp, hop, resolve]; rfl⟩
      obtain ⟨consts, hx⟩ := hx
      have := builtin_sound (P := P) (b := b) (ty := o.type) (consts := consts) hE hH (show R1OK Q (sBuiltin P x.gl env H ν.nx b args.toList tys.toList) from hr)
      have e : (List.map a.eval args.toList).toArray = Array.map a.eval args := by apply Array.ext'; simp
      simp only [e, Array.toArray_toList] at this
      rw [hx]
      exact this
    | value f => exact hr.elim
    | invoke r m => exact hr.elim
  | makeSlice t l c => rw [hop] at hr; simp only [execOp, hop]; exact makeSlice_sound hH (he l) (he c) hr
  | makeMap t r =>
    rw [hop] at hr; simp only [execOp, hop]
    cases r with
    | none => exact makeMap_sound hH hr
    | some r => exact hr.elim
  | lookup t m k ok => rw [hop] at hr; simp only [execOp, hop]; exact (lookup_sound hH (he m) (he k) hr).toR hH
  | mapUpdate t m k v => rw [hop] at hr; simp only [execOp, hop]; exact mapUp_sound hH (he m) (he k) (he v) hr
  | insert t m k v => rw [hop] at hr; simp only [execOp, hop]; exact mapUp_sound hH (he m) (he k) (he v) hr
  | range t y => rw [hop] at hr; simp only [execOp, hop]; exact range_sound hH (he y) hr
  | next y b =>
    rw [hop] at hr; simp only [execOp, hop]
    cases b with
    | true => exact next_sound hH (he y) hr
    | false => exact hr.elim
  | _ => rw [hop] at hr; exact hr.elim
theorem sopC_sound {nt : Nat} {env : Env} {a : Act} {o : Oper} (hE : RelE ν nt env a.tmps) (hH : Holds x ν H w) (hr : R1OK Q (sopC P x.gl env H ν.nx o.op)) : OpR P x ν w (execOp a.eval o) Q := by
  cases hop : o.op with
  | call c =>
    rw [hop] at hr
    obtain ⟨cal, args, tys⟩ := c
    cases cal with
    | builtin b =>
      have hx : ∃ consts, execOp a.eval o = builtin b tys o.type consts (args.map a.eval) := ⟨_, by simp only [execOp, hop, resolve]; rfl⟩
      obtain ⟨consts, hx⟩ := hx
      have := builtin_soundC (P := P) (b := b) (ty := o.type) (consts := consts) hE hH (show R1OK Q (sBuiltinC P x.gl env H ν.nx b args.toList tys.toList) from hr)
      have e : (List.map a.eval args.toList).toArray = Array.map a.eval args := by apply Array.ext'; simp
      simp only [e, Array.toArray_toList] at this
      rw [hx]
      exact this
    | value f => exact hr.elim
    | invoke r m => exact hr.elim
  | _ => rw [hop] at hr; exact hr.elim
end
end Go.Sy
namespace Go.Sy
open Go
set_option linter.unusedSimpArgs false
set_option linter.unusedVariables false

section
variable {P : Program} {x : Ctx} {ν : Nm} {H : Heap} {w : World}

/-- What is asked of a quiet operation's result. -/
theorem sopq_sound {Q : SV → Heap → Nat → Prop} {nt : Nat} {env : Env} {a : Act} {o : Oper} (hq : quietOp o.op = true) (hE : RelE ν nt env a.tmps) (hH : Holds x ν H w) (hr : R1OK Q (sop P x.gl env H ν.nx o.op)) :
    OpQ P ν w (execOp a.eval o) fun s => Q s H ν.nx := by
  have he : ∀ (y : Operand) q, ev x.gl env y = some q → Rel ν q (a.eval y) := fun y q h => ev_rel hH.glOK hE h
  have hes : ∀ (ys : List Operand) q, evs x.gl env ys = some q → RelL ν q (ys.map a.eval) := fun ys q h => evs_rel hH.glOK hE h
  have hopt : ∀ (y : Option Operand) (r : Option Int), optI (y.map (ev x.gl env)) = some r → (r = none ∧ y.map a.eval = none) ∨ ∃ k i, r = some i ∧ y.map a.eval = some (.int k i) := by
    intro y r h
    refine optI_rel (ν := ν) (fun u hu => ?_) (fun hn => by cases y <;> simp_all) r h
    cases y with
    | none => simp at hu
    | some y =>
      simp only [Option.map_some, Option.some.injEq] at hu
      subst hu
      exact ⟨_, rfl, fun s hs => he y s hs⟩
  cases hop : o.op with
  | move y => rw [hop] at hr; simp only [execOp, hop]; exact move_sound (he y) hr
  | assign y => rw [hop] at hr; simp only [execOp, hop]; exact move_sound (he y) hr
  | pick c y z => rw [hop] at hr; simp only [execOp, hop]; exact pick_sound (he c) (he y) (he z) hr
  | build T ps => rw [hop] at hr; simp only [execOp, hop]; exact build_sound hH.glOK hE hr
  | load T y => rw [hop] at hr; simp only [execOp, hop]; exact load_sound hH (he y) hr
  | nilCheck y => rw [hop] at hr; exact nil_sound hop rfl (he y) hr
  | binOp op t y z u => rw [hop] at hr; simp only [execOp, hop]; exact bin_sound (he y) (he z) hr
  | unOp op t y => rw [hop] at hr; simp only [execOp, hop]; exact un_sound (he y) hr
  | convert s d y =>
    rw [hop] at hr; simp only [execOp, hop]
    simp only [sop] at hr
    split at hr
    · exact conv_sound hH ⟨_, by assumption⟩ (he y) hr
    · exact hr.elim
  | makeFunc fn f c =>
    rw [hop] at hr; simp only [execOp, hop]
    exact makeFunc_sound (fun q hq => by simpa using hes _ q hq) (fun q hq => by simpa using hes _ q hq) hr
  | slice t y lo hi mx => rw [hop] at hr; simp only [execOp, hop]; exact slice_sound (he y) (hopt lo) (hopt hi) (hopt mx) hr
  | fieldAddr t y f => rw [hop] at hr; simp only [execOp, hop]; exact fieldAddr_sound (he y) hr
  | field t y f => rw [hop] at hr; simp only [execOp, hop]; exact field_sound (he y) hr
  | indexAddr t y i => rw [hop] at hr; simp only [execOp, hop]; exact indexAddr_sound (he y) (he i) hr
  | index t y i => rw [hop] at hr; simp only [execOp, hop]; exact index_sound (he y) (he i) hr
  | extract y i => rw [hop] at hr; simp only [execOp, hop]; exact extract_sound (he y) hr
  | lookup t m k ok => rw [hop] at hr; simp only [execOp, hop]; exact lookup_sound hH (he m) (he k) hr
  | call c =>
    rw [hop] at hr hq
    obtain ⟨cal, args, tys⟩ := c
    cases cal with
    | value f => exact hr.elim
    | invoke r m => exact hr.elim
    | builtin b =>
      have hr' : R1OK Q (sBuiltin P x.gl env H ν.nx b args.toList tys.toList) := hr
      have hx : ∃ consts, execOp a.eval o = builtin b tys o.type consts (args.map a.eval) := ⟨_, by simp only [execOp, hop, resolve]; rfl⟩
      obtain ⟨consts, hx⟩ := hx
      rw [hx]
      have e : Array.map a.eval args = (List.map a.eval args.toList).toArray := by apply Array.ext'; simp
      have e2 : tys = tys.toList.toArray := by simp
      rw [e, e2]
      generalize args.toList = al at hr' ⊢
      generalize tys.toList = tl at hr' ⊢
      unfold sBuiltin at hr'
      split at hr'
      · exact len_sound (he _) hr'
      · simp [quietOp] at hq
      · simp [quietOp] at hq
      · simp [quietOp] at hq
      · refine minMax_sound (mx := true) (tys := tl.toArray) (ty := o.type) ⟨by simp, fun i s hi => ?_⟩ hr'
        simp only [List.getElem?_map, Option.map_eq_some_iff] at hi
        obtain ⟨y, h1, h2⟩ := hi
        exact ⟨a.eval y, by simp [h1], he y s h2⟩
      · refine minMax_sound (mx := false) (tys := tl.toArray) (ty := o.type) ⟨by simp, fun i s hi => ?_⟩ hr'
        simp only [List.getElem?_map, Option.map_eq_some_iff] at hi
        obtain ⟨y, h1, h2⟩ := hi
        exact ⟨a.eval y, by simp [h1], he y s h2⟩
      · simp [quietOp] at hq
      · exact hr'.elim
  | _ => rw [hop] at hq; simp [quietOp] at hq

theorem put_eq (a : Act) (dst : Option Tmp) (v : Value) : { a with tmps := put a.tmps dst v } = a.put dst v := by cases dst <;> rfl

/-- One quiet operation. -/
theorem lands_qOp {b : Frame} {cs : List Frame} {T : Machine → Prop} {k : List Item} {ops : Array Oper} {C : World → Prop} {K : Act → Prop} {i : Nat} {l : List Nat} {a : Act} (hdef : ∀ (i : Nat) o c, ops[i]? = some o → o.op ≠ .defer c)
    (hw : C w) (h : qOp P ops C i K a) (hK : ∀ a w, C w → K a → Lands P (lone (fr b a (.inRegion ops l :: k)) cs w) T) : Lands P (lone (fr b a (.inRegion ops (i :: l) :: k)) cs w) T := by
  unfold qOp at h
  cases ho : ops[i]? with
  | none =>
    simp only [ho] at h
    refine .step (m₁ := lone (fr b a (.inRegion ops l :: k)) cs w) (step_lone_go ?_) (hK a w hw h)
    simp only [fr]
    simp [stepG, stepG.exec, ho, Frame.finish]
  | some o =>
    simp only [ho] at h
    have hd : ∀ c, o.op ≠ .defer c := fun c => hdef i o c ho
    by_cases hwt : Region.wanted o (yielded ops a.tmps) = true
    · simp only [hwt, if_true] at h
      obtain ⟨v, h1, h2⟩ := h
      have h3 := h1 w hw
      unfold Oper.quietAt at h3
      cases hr : (execOp a.eval o).run P w with
      | halt y w' => rw [hr] at h3; exact h3.elim
      | ok n w' =>
        rw [hr] at h3
        cases n with
        | value u =>
          obtain ⟨rfl, rfl⟩ := h3
          exact lands_op_value ho hwt hd hr (by rw [put_eq]; exact hK _ _ hw h2)
        | skip =>
          obtain ⟨rfl, rfl⟩ := h3
          exact lands_op_unit ho hwt hd hr (by rw [put_eq]; exact hK _ _ hw h2)
        | enter f args =>
          obtain ⟨rfl, hc⟩ := h3
          obtain ⟨e, w'', fr', ⟨rfl, hC⟩, hsteps, _, hl⟩ := hc (fr b a (.inRegion ops (i :: l) :: k) :: cs)
          have hg := stepG_fr_op (P := P) (b := b) (a := a) (k := k) (cs := cs) (w := w') (rest := l) ho hwt hd
          refine .step (m₁ := lone (Frame.enter P f args .normal) (fr b a (.inRegion ops (i :: l) :: k) :: cs) w') (step_lone_go ?_) ?_
          · rw [hg]; simp [stepG.apply, hr, fr]
          · refine .steps (Steps.trans hsteps (.one (step_leave_returned hl))) ?_
            rw [fr_finish, ho]
            exact (put_eq a o.dst v) ▸ hK _ _ hC h2
        | _ => exact h3.elim
    · simp only [hwt] at h
      exact lands_op_skip ho (by simpa using hwt) (by rw [put_eq]; exact hK _ _ hw h)

/-- Whatever order is drawn. -/
theorem lands_anyQ {b : Frame} {cs : List Frame} {T : Machine → Prop} {k : List Item} {ops : Array Oper} {C : World → Prop} {Q : Act → Prop} (hdef : ∀ (i : Nat) o c, ops[i]? = some o → o.op ≠ .defer c)
    (hQ : ∀ a w, C w → Q a → Lands P (lone (fr b a k) cs w) T) : ∀ (fuel t : Nat) (listed : Array Bool) (a : Act) (w : World), C w → wpAnyQ P .any ops C Q fuel listed a →
      Lands P (lone (fr b a (.inRegion ops (Region.linearise.go .any ops fuel t listed []) :: k)) cs w) T := by
  intro fuel
  induction fuel with
  | zero => intro t listed a w hw h; exact lands_region_end (hQ a w hw h.2)
  | succ fuel ih =>
    intro t listed a w hw h
    obtain ⟨h₀, h₁⟩ := h
    simp only [Region.linearise.go]
    change Lands P (lone (fr b a (.inRegion ops (match (Region.ready .any ops listed)[t % (Region.ready .any ops listed).length]? with
      | some i => Region.linearise.go .any ops fuel (t / (Region.ready .any ops listed).length) (listed.setIfInBounds i true) [i]
      | none => [].reverse) :: k)) cs w) T
    cases hi : (Region.ready .any ops listed)[t % (Region.ready .any ops listed).length]? with
    | none =>
      have hnil : Region.ready .any ops listed = [] := by
        cases hr : Region.ready .any ops listed with
        | nil => rfl
        | cons y ys =>
          rw [hr] at hi
          have hlt : t % (y :: ys).length < (y :: ys).length := Nat.mod_lt _ (by simp)
          simp at hi
          simp at hlt
          omega
      exact lands_region_end (hQ a w hw (h₀ hnil))
    | some i =>
      simp only []
      rw [linearise_go_acc, List.reverse_singleton, List.singleton_append]
      exact lands_qOp hdef hw (h₁ i (List.mem_of_getElem? hi)) fun a' w' hw' hK => ih _ _ a' w' hw' hK

/-- A statement that draws its order and writes nothing. -/
theorem lands_draw {b : Frame} {cs : List Frame} {T : Machine → Prop} {k : List Item} {ops : Array Oper} {id : Nat} {a : Act} {C : World → Prop} (hm : P.follows .mixedOrders = true) (hB : Region.lexB .any ops = true) (hdef : ∀ (i : Nat) o c, ops[i]? = some o → o.op ≠ .defer c)
    (hC : C { w with drawn := w.drawn + 1 }) (h : wpQuiet P ops C (fun a' => ∀ w', C w' → Lands P (lone (fr b a' k) cs w') T) ops.toList a) : Lands P (lone (fr b a (.code (.region id ops true) :: k)) cs w) T := by
  simp only [Region.lexB, Bool.and_eq_true] at hB
  have h2 := wpAnyQ_lex (C := C) (md := .any) hB.1 ops.toList 0 (Array.replicate ops.size false) a (by simp) (by simpa using hB.2) h
  simp only [Array.length_toList] at h2
  refine lands_region_draw fun t => ?_
  simp only [Region.schedule, hm, Bool.true_or, if_true]
  exact lands_anyQ hdef (fun a' w' hw' hq => hq w' hw') ops.size t _ a _ hC h2
end
end Go.Sy

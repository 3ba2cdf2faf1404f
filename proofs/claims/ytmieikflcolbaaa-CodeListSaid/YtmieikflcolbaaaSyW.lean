/- Maps. No condition. -/
import Derived.Test.YtmieikflcolbaaaSyK
namespace Go.Sy
open Go
set_option linter.unusedSimpArgs false
set_option linter.unusedVariables false
section
variable {P : Program} {x : Ctx} {ν : Nm} {H : Heap} {w : World} {Q : SV → Heap → Nat → Prop}
theorem makeMap_sound {t : TypeId} (hH : Holds x ν H w) (hr : R1OK Q (sMakeMap (tyMap P t) H ν.nx)) : OpR P x ν w (do pure (.value (← Instr.makeMap t none))) Q := by
  unfold sMakeMap at hr
  split at hr
  case h_2 => exact hr.elim
  rename_i ag ks z ht
  have hr : Q (.mp ν.nx) ((ν.nx, .map ag ks fun _ => none) :: H) (ν.nx + 1) := hr
  have hone : ag = false → ks.length = 1 := by
    unfold tyMap at ht
    split at ht
    case h_2 => cases ht
    split at ht
    case h_2 => cases ht
    rename_i ag' ks' z' hk hz
    have : ag' = ag ∧ ks' = ks := by
      split at ht <;> (simp only [Option.some.injEq, Prod.mk.injEq] at ht; exact ⟨ht.1, ht.2.1⟩)
    obtain ⟨rfl, rfl⟩ := this
    rintro rfl
    unfold tyKey at hk
    split at hk
    · simp only [Option.some.injEq, Prod.mk.injEq] at hk; rw [← hk.2]; rfl
    · split at hk
      · split at hk <;> simp at hk
      · cases hk
    · cases hk
  refine ⟨.map (some w.heap.size), { w with heap := w.heap.push (.map #[] 0) }, ν.name w.heap.size, .mp ν.nx, _, .inl ?_, Grows.name _ _, hH.push (o := .map #[] 0) rfl ⟨rfl, rfl, rfl⟩ ?_, ?_, hr⟩
  · simp [Instr.makeMap, newObj, Sem.run]
  · exact ⟨Nat.lt_succ_self _, #[], 0, by rw [Nm.name_blk]; simp, hone, by simp, fun ns s _ h => by simp at h, by simp⟩
  · exact ⟨Nat.lt_succ_self _, by rw [Nm.name_blk]⟩
theorem check_int {k : IntKind} {t : TypeId} {v : Value} {em : Bool} {n : Nat} (hu : P.underlying t = some (.int k)) : (Instr.checkKey em (n + 1) t v).run P w = .ok () w := by
  simp only [Instr.checkKey, Sem.run_bind, run_underlying hu, Result.andThen_ok]
  rfl
theorem check_fields {cs : Array Value} (body : Field → PUnit → Sem (ForInStep PUnit)) (hbody : ∀ f k v, P.underlying f.type = some (.int k) → (part f.type cs f.offset).run P w = .ok v w → (body f ⟨⟩).run P w = .ok (.yield ⟨⟩) w) :
    ∀ (l : List Field) (i : Nat) (ks : List IntKind), keyKinds P i l = some ks → i + ks.length ≤ cs.size → (forIn l PUnit.unit body).run P w = .ok ⟨⟩ w
  | [], i, ks, h, hl => rfl
  | f :: l, i, ks, h, hl => by
    simp only [keyKinds] at h
    split at h
    case isFalse => cases h
    rename_i hc
    split at h
    case h_2 => cases h
    rename_i k ks' h1 h2 h3
    simp only [Option.some.injEq] at h
    subst h
    simp only [List.length_cons] at hl
    have ih := check_fields body hbody l (i + 1) ks' h3 (by omega)
    have hag : tyAgg P f.type = some false := by simp [tyAgg, h1, aggD]
    have hp := part_run (P := P) (w := w) (c := cs) (o := f.offset) h2 hag (by omega) (fun _ => rfl)
    rw [List.forIn_cons, Sem.run_bind, hbody f k _ h1 hp, Result.andThen_ok]
    exact ih
theorem check_struct {fs : Array Field} {t : TypeId} {cs : Array Value} {em : Bool} {n : Nat} {ks : List IntKind} (hu : P.underlying t = some (.struct fs)) (hk : keyKinds P 0 fs.toList = some ks) (hl : ks.length ≤ cs.size) :
    (Instr.checkKey em (n + 1 + 1) t (.agg cs)).run P w = .ok () w := by
  simp only [Instr.checkKey, Sem.run_bind, run_underlying hu, Result.andThen_ok]
  rw [← Array.forIn_toList, check_fields (cs := cs) _ ?_ fs.toList 0 ks hk (by omega)]
  · rfl
  · intro f k v hf hp
    by_cases hn : f.name = "_"
    · simp [hn]
    · simp only [ne_eq, hn, not_false_eq_true, if_true, Sem.run_bind, hp, Result.andThen_ok, run_underlying hf]
      rfl
theorem keyV_false {k : IntKind} {n : Int} : keyV false [k] [n] = .int k n := rfl
theorem keyV_true {ks : List IntKind} {ns : List Int} : keyV true ks ns = .agg (List.zipWith Value.int ks ns).toArray := by
  unfold keyV; split
  · rename_i h _; cases h
  · rfl
theorem zip_inj : ∀ {ks : List IntKind} {ns ms : List Int}, ns.length = ks.length → ms.length = ks.length → List.zipWith Value.int ks ns = List.zipWith Value.int ks ms → ns = ms
  | [], [], [], _, _, _ => rfl
  | k :: ks, n :: ns, m :: ms, h1, h2, h => by
    simp only [List.zipWith_cons_cons, List.cons.injEq, Value.int.injEq, true_and] at h
    rw [h.1, zip_inj (by simpa using h1) (by simpa using h2) h.2]
  | [], _ :: _, _, h, _, _ => by simp at h
  | [], [], _ :: _, _, h, _ => by simp at h
  | _ :: _, [], _, h, _, _ => by simp at h
  | _ :: _, _ :: _, [], _, h, _ => by simp at h
theorem keyV_inj {ag : Bool} {ks : List IntKind} {ns ms : List Int} (h1 : ag = false → ks.length = 1) (h2 : ns.length = ks.length) (h3 : ms.length = ks.length) (h : keyV ag ks ns = keyV ag ks ms) : ns = ms := by
  cases ag with
  | false =>
    have := h1 rfl
    match ks, ns, ms, this, h2, h3 with
    | [k], [n], [m], _, _, _ => simp only [keyV_false, Value.int.injEq, true_and] at h; rw [h]
  | true =>
    rw [keyV_true, keyV_true] at h
    simp only [Value.agg.injEq] at h
    exact zip_inj h2 h3 (by simpa using h)
theorem eq_zip : ∀ {ks : List IntKind} {ns ms : List Int}, ns.length = ks.length → ms.length = ks.length →
    eqCells (ks.map fun _ => true) (svs (List.zipWith Value.int ks ns)) (svs (List.zipWith Value.int ks ms)) = some (decide (ns = ms))
  | [], [], [], _, _ => by simp [svs, eqCells]
  | k :: ks, n :: ns, m :: ms, h1, h2 => by
    have ih := eq_zip (ks := ks) (ns := ns) (ms := ms) (by simpa using h1) (by simpa using h2)
    simp only [svs] at ih
    simp only [List.map_cons, svs, List.zipWith_cons_cons, eqCells, if_true, ih, Option.map_some, List.cons.injEq]
    congr 1
    by_cases hnm : n = m <;> by_cases hr : ns = ms <;> simp [hnm, hr]
  | [], _ :: _, _, h, _ => by simp at h
  | [], [], _ :: _, _, h => by simp at h
  | _ :: _, [], _, h, _ => by simp at h
  | _ :: _, _ :: _, [], _, h => by simp at h
def pick (f : Value → Bool) : List MapEntry → Nat → Option (Nat × Value)
  | [], _ => none
  | e :: es, i => if f e.key then some (i, e.val) else pick f es (i + 1)
theorem findAsking_run {kt : TypeId} {k : Value} {f : Value → Bool} : ∀ (es : List MapEntry) (i : Nat), (∀ e ∈ es, ∀ w, (Op.equal kt k e.key).run P w = .ok (f e.key) w) → ∀ w, (Instr.findAsking kt k es i).run P w = .ok (pick f es i) w
  | [], i, _, w => rfl
  | e :: es, i, h, w => by
    have ih := findAsking_run es (i + 1) (fun e' he' => h e' (by simp [he'])) w
    simp only [Instr.findAsking, Sem.run_bind, h e (by simp) w, Result.andThen_ok, pick]
    cases f e.key with
    | true => rfl
    | false => simpa using ih
theorem findNow_int {k : IntKind} {n : Int} {d : IntKind} {f : Value → Bool} : ∀ (es : List MapEntry) (i : Nat), (∀ e ∈ es, ∃ m, e.key = .int k m ∧ f e.key = (n == m)) → Instr.findNow (.int d) (.int k n) es i = some (pick f es i)
  | [], i, _ => rfl
  | e :: es, i, h => by
    obtain ⟨m, hm, hf⟩ := h e (by simp)
    have ih := findNow_int (d := d) es (i + 1) (fun e' he' => h e' (by simp [he']))
    have hsn : Instr.sameNow (.int d) (.int k n) (.int k m) = some (n == m) := by simp [Instr.sameNow]
    simp only [Instr.findNow, pick, hf]
    rw [hm, hsn]
    cases n == m with
    | true => rfl
    | false => simpa using ih
theorem pick_spec {f : Value → Bool} : ∀ {es : List MapEntry} {i : Nat}, match pick f es i with
    | some (j, v) => ∃ q, j = i + q ∧ ∃ e, es[q]? = some e ∧ f e.key = true ∧ e.val = v
    | none => ∀ e ∈ es, f e.key = false
  | [], i => by simp [pick]
  | e :: es, i => by
    simp only [pick]
    by_cases h : f e.key = true
    · simp only [h, if_true]
      exact ⟨0, rfl, e, rfl, h, rfl⟩
    · simp only [h]
      have ih := pick_spec (f := f) (es := es) (i := i + 1)
      simp only [Bool.false_eq_true, if_false]
      cases hp : pick f es (i + 1) with
      | none =>
        rw [hp] at ih
        intro e' he'
        rcases List.mem_cons.1 he' with rfl | he'
        · simpa using h
        · exact ih e' he'
      | some jv =>
        obtain ⟨j, v⟩ := jv
        rw [hp] at ih
        obtain ⟨q, h1, e', h2, h3, h4⟩ := ih
        exact ⟨q + 1, by omega, e', by simpa using h2, h3, h4⟩
def KeyT (P : Program) (kt : TypeId) (ag : Bool) (ks : List IntKind) : Prop := tyKey P kt = some (ag, ks)
theorem KeyT.check {kt : TypeId} {ag : Bool} {ks : List IntKind} {ns : List Int} {em : Bool} (h : KeyT P kt ag ks) (hl : ns.length = ks.length) (w : World) : (Instr.checkKey em 10000 kt (keyV ag ks ns)).run P w = .ok () w := by
  unfold KeyT tyKey at h
  split at h
  · rename_i k hu
    exact check_int hu
  · rename_i fs hu
    split at h
    case h_2 => cases h
    rename_i l hk
    split at h
    case isFalse => cases h
    simp only [Option.some.injEq, Prod.mk.injEq] at h
    obtain ⟨rfl, rfl⟩ := h
    rw [keyV_true]
    exact check_struct hu hk (by simp; omega)
  · cases h
theorem KeyT.find {kt : TypeId} {ag : Bool} {ks : List IntKind} {ns : List Int} {f : List Int → Option SV} {es : List MapEntry} (h : KeyT P kt ag ks) (hl : ns.length = ks.length) (hM : MapOK ν ag ks f es) :
    ∃ r, (∀ w, (Instr.findKey kt (keyV ag ks ns) es).run P w = .ok r w) ∧ match r with
      | some (j, v) => ∃ e, es[j]? = some e ∧ e.key = keyV ag ks ns ∧ e.val = v
      | none => ∀ e ∈ es, e.key ≠ keyV ag ks ns := by
  have hspec : ∀ (g : Value → Bool), (∀ v, g v = true ↔ v = keyV ag ks ns) → match pick g es 0 with
      | some (j, v) => ∃ e, es[j]? = some e ∧ e.key = keyV ag ks ns ∧ e.val = v
      | none => ∀ e ∈ es, e.key ≠ keyV ag ks ns := by
    intro g hg
    have := pick_spec (f := g) (es := es) (i := 0)
    cases hp : pick g es 0 with
    | none =>
      rw [hp] at this
      intro e he heq
      have h1 := this e he
      rw [(hg _).2 heq] at h1
      cases h1
    | some jv =>
      obtain ⟨j, v⟩ := jv
      rw [hp] at this
      obtain ⟨q, h1, e, h2, h3, h4⟩ := this
      exact ⟨e, by rw [h1, Nat.zero_add]; exact h2, (hg _).1 h3, h4⟩
  obtain ⟨g, hg⟩ : ∃ g : Value → Bool, ∀ v, g v = true ↔ v = keyV ag ks ns := ⟨fun v => @decide (v = keyV ag ks ns) (Classical.propDecidable _), fun v => by simp⟩
  have hs := hspec g hg
  unfold KeyT tyKey at h
  split at h
  · rename_i k hu
    simp only [Option.some.injEq, Prod.mk.injEq] at h
    obtain ⟨rfl, rfl⟩ := h
    match ns, hl with
    | [n], _ =>
      have hnow := findNow_int (k := k) (n := n) (d := k) (f := g) es 0 (fun e he => by
        obtain ⟨ms, s, h1, h2, _⟩ := hM.in_ e he
        match ms, h1 with
        | [m], _ =>
          refine ⟨m, h2, ?_⟩
          have := hg e.key
          rw [h2, keyV_false, keyV_false] at this
          rw [h2, keyV_false]
          simp only [Value.int.injEq, true_and] at this
          by_cases e1 : m = n
          · rw [this.2 e1, e1]; simp
          · have : g (.int k m) = false := by simpa using fun h => e1 (this.1 h)
            rw [this]
            have : ¬ n = m := fun h => e1 h.symm
            simp [this])
      refine ⟨pick g es 0, fun w => ?_, hs⟩
      simp only [Instr.findKey, keyV_false, Sem.run_bind, run_underlying hu, Result.andThen_ok, hnow]
      rfl
  · rename_i fs hu
    split at h
    case h_2 => cases h
    rename_i l hk
    split at h
    case isFalse => cases h
    rename_i heq
    simp only [Option.some.injEq, Prod.mk.injEq] at h
    obtain ⟨rfl, rfl⟩ := h
    have hg2 : tyAgg P kt = some true := by simp [tyAgg, hu, aggD]
    have hrun : ∀ e ∈ es, ∀ w, (Op.equal kt (keyV true l ns) e.key).run P w = .ok (g e.key) w := by
      intro e he w
      obtain ⟨ms, s, h1, h2, _⟩ := hM.in_ e he
      obtain ⟨q, q1, _, q3⟩ := eqRun (P := P) 8 kt _ heq 10000 (by omega) _ _ _ _ _ nm0 w (RelL.svs (List.zipWith Value.int l ns)) (RelL.svs (List.zipWith Value.int l ms)) (eq_zip hl h1)
      rw [hg2] at q1
      simp only [Option.some.injEq] at q1
      subst q1
      have hge : g e.key = decide (ns = ms) := by
        have h3 := hg e.key
        by_cases e1 : ns = ms
        · rw [h3.2 (by rw [h2, e1])]; simp [e1]
        · have : g e.key = false := by
            cases h4 : g e.key with
            | false => rfl
            | true => exact absurd (keyV_inj hM.one h1 hl (h2.symm.trans (h3.1 h4))).symm e1
          rw [this]; simp [e1]
      rw [hge, h2, keyV_true, keyV_true]
      show (Op.equalIn 10000 kt _ _).run P w = _
      simpa using q3
    refine ⟨pick g es 0, fun w => ?_, hs⟩
    rcases es with _ | ⟨e, es⟩
    · simp only [Instr.findKey, Sem.run_bind, run_underlying hu, Result.andThen_ok, Instr.findNow]
      rfl
    · have hno : Instr.findNow (.struct fs) (keyV true l ns) (e :: es) 0 = none := by
        simp [Instr.findNow, Instr.sameNow]
      simp only [Instr.findKey, Sem.run_bind, run_underlying hu, Result.andThen_ok, hno]
      exact findAsking_run (e :: es) 0 hrun w
  · cases h
theorem tyMap_eq {t : TypeId} {ag : Bool} {ks : List IntKind} {z : SV} (h : tyMap P t = some (ag, ks, z)) :
    ∃ k e zv, P.underlying t = some (.map k e) ∧ KeyT P k ag ks ∧ (∀ w, (zeroValue e).run P w = .ok zv w) ∧ ∀ ν, Rel ν z zv := by
  unfold tyMap at h
  split at h
  case h_2 => cases h
  rename_i k e hu
  split at h
  case h_2 => cases h
  rename_i ag' ks' z' hk hz
  have hz2 : ∀ w, (zeroValue e).run P w = .ok z' w := by
    intro w
    simp only [tyZeroV, Option.bind_eq_some_iff] at hz
    obtain ⟨i, h1, h2⟩ := hz
    simp [zeroValue, typeInfo, h1, h2]
  split at h
  · simp only [Option.some.injEq, Prod.mk.injEq] at h
    obtain ⟨rfl, rfl, rfl⟩ := h
    exact ⟨k, e, _, hu, hk, hz2, fun ν => ⟨_, rfl, RelL.svs _⟩⟩
  · simp only [Option.some.injEq, Prod.mk.injEq] at h
    obtain ⟨rfl, rfl, rfl⟩ := h
    exact ⟨k, e, _, hu, hk, hz2, fun ν => rfl⟩
theorem intCells_rel : ∀ {cs : List SV} {ks : List IntKind} {ns : List Int} {vs : List Value}, intCells cs = some (ks, ns) → RelL ν cs vs → ns.length = ks.length ∧ vs = List.zipWith Value.int ks ns
  | [], ks, ns, vs, h, hr => by
    simp only [intCells, Option.some.injEq, Prod.mk.injEq] at h
    obtain ⟨rfl, rfl⟩ := h
    exact ⟨rfl, hr⟩
  | c :: cs, ks, ns, vs, h, hr => by
    unfold intCells at h
    split at h
    · rename_i e; cases e
    · rename_i k n l e
      cases e
      split at h
      case h_2 => cases h
      rename_i ks' ns' h1
      simp only [Option.some.injEq, Prod.mk.injEq] at h
      obtain ⟨rfl, rfl⟩ := h
      simp only [RelL] at hr
      obtain ⟨y, ys, rfl, h2, h3⟩ := hr
      simp only [Rel] at h2
      subst h2
      obtain ⟨h4, rfl⟩ := intCells_rel h1 h3
      exact ⟨by simp [h4], rfl⟩
    · cases h
theorem keyS_rel {k : SV} {ag : Bool} {ks : List IntKind} {ns : List Int} {v : Value} (h : keyS k = some (ag, ks, ns)) (hv : Rel ν k v) : ns.length = ks.length ∧ v = keyV ag ks ns := by
  unfold keyS at h
  split at h
  · simp only [Option.some.injEq, Prod.mk.injEq] at h
    obtain ⟨rfl, rfl, rfl⟩ := h
    exact ⟨rfl, hv⟩
  · split at h
    case h_2 => cases h
    rename_i ks' ns' h1
    simp only [Option.some.injEq, Prod.mk.injEq] at h
    obtain ⟨rfl, rfl, rfl⟩ := h
    simp only [Rel] at hv
    obtain ⟨c, rfl, h2⟩ := hv
    obtain ⟨h3, h4⟩ := intCells_rel h1 h2
    exact ⟨h3, by rw [keyV_true, ← h4]⟩
  · cases h
theorem lookup_sound {t : TypeId} {ok : Bool} {s k : Option SV} {m kv : Value} (hH : Holds x ν H w) (hs : ∀ q, s = some q → Rel ν q m) (hk : ∀ q, k = some q → Rel ν q kv)
    (hr : R1OK Q (sLookup (tyMap P t) ok H ν.nx s k)) : OpQ P ν w (do pure (.value (← Instr.lookup t m kv ok))) fun s => Q s H ν.nx := by
  unfold sLookup at hr
  split at hr
  case h_2 => exact hr.elim
  rename_i id k
  have h1 := hs _ rfl
  have h2 := hk _ rfl
  simp only [Rel] at h1
  obtain ⟨_, rfl⟩ := h1
  unfold sLookupIn at hr
  split at hr
  case h_2 => exact hr.elim
  rename_i ag ks f ag' ks' ns hb hks
  split at hr
  case h_2 => exact hr.elim
  rename_i ag'' ks'' z ht
  split at hr
  case isFalse => exact hr.elim
  rename_i hc
  obtain ⟨rfl, rfl, rfl, rfl⟩ := hc
  obtain ⟨kt, e, zv, hu, hK, hz, hzr⟩ := tyMap_eq ht
  obtain ⟨hnl, rfl⟩ := keyS_rel hks h2
  obtain ⟨_, es, clock, hes, hM⟩ := hH.ok id _ hb
  have hlt : ν.blk id < w.heap.size := (Array.getElem?_eq_some_iff.1 hes).1
  obtain ⟨r, hf, hr2⟩ := hK.find hnl hM
  have hchk := fun em w => hK.check (em := em) hnl w
  have hget : ∀ w', Ext w w' → w'.heap[ν.blk id]? = some (.map es clock) := fun w' e' => by rw [e'.block _ hlt]; exact hes
  have main : ∀ (v : Value) (found : Bool), Rel ν ((f ns).getD z) v → (f ns).isSome = found → (∀ w', Ext w w' → (Instr.lookup t (.map (some (ν.blk id))) (keyV ag ks ns) ok).run P w' = .ok (if ok then .tuple #[v, .bool found] else v) w') → OpQ P ν w (do pure (.value (← Instr.lookup t (.map (some (ν.blk id))) (keyV ag ks ns) ok))) fun s => Q s H ν.nx := by
    intro v found hv hfd hrun
    refine ⟨if ok then .tuple #[v, .bool found] else v, _, fun w' e' => by simp [hrun w' e'], ?_, hr⟩
    cases ok with
    | true => exact ⟨_, rfl, v, [.bool found], rfl, hv, .bool found, [], rfl, by rw [hfd]; rfl, rfl⟩
    | false => exact hv
  cases r with
  | none =>
    have hfn : f ns = none := by
      cases hfs : f ns with
      | none => rfl
      | some s =>
        obtain ⟨e', h3, h4⟩ := hM.out ns s hnl hfs
        exact absurd h4 (hr2 e' h3)
    refine main zv false (by rw [hfn]; exact hzr ν) (by rw [hfn]; rfl) fun w' e' => ?_
    have hg := hget w' e'
    simp [Instr.lookup, run_underlying hu, getObj, Sem.run, hg, hchk, hf, hz]
  | some jv =>
    obtain ⟨j, v⟩ := jv
    obtain ⟨en, h3, h4, rfl⟩ := hr2
    obtain ⟨ms, s, h5, h6, h7, h8⟩ := hM.in_ en (List.mem_of_getElem? h3)
    have := keyV_inj hM.one h5 hnl (h6.symm.trans h4)
    subst this
    refine main en.val true (by rw [h7]; exact h8.grows (.ofFree ν)) (by rw [h7]; rfl) fun w' e' => ?_
    have hg := hget w' e'
    simp [Instr.lookup, run_underlying hu, getObj, Sem.run, hg, hchk, hf]
theorem sameBits_key {ag : Bool} {ks : List IntKind} {ns : List Int} : Instr.sameBits 10000 (keyV ag ks ns) (keyV ag ks ns) = true := by
  have hz : ∀ (ks : List IntKind) (ns : List Int), ((List.zipWith Value.int ks ns).zip (List.zipWith Value.int ks ns)).all (fun (x, y) => Instr.sameBits 9999 x y) = true := by
    intro ks
    induction ks with
    | nil => intro ns; rfl
    | cons k ks ih =>
      intro ns
      cases ns with
      | nil => rfl
      | cons n ns =>
        simp only [List.zipWith_cons_cons, List.zip_cons_cons, List.all_cons, ih ns, Bool.and_true]
        simp [Instr.sameBits]
  cases ag with
  | true =>
    rw [keyV_true]
    simp only [Instr.sameBits, beq_self_eq_true, Bool.true_and]
    exact hz ks ns
  | false =>
    unfold keyV
    split
    · rename_i v _ h
      match ks, ns, h with
      | k :: ks, n :: ns, h => simp only [List.zipWith_cons_cons, List.cons.injEq] at h; rw [← h.1]; simp [Instr.sameBits]
    · simp only [Instr.sameBits, beq_self_eq_true, Bool.true_and]
      exact hz ks ns
theorem idFree'_free : ∀ {s : SV} {y : Value}, idFree' s = true → Rel ν s y → Rel ν.free s y := by
  intro s y h hr
  cases s with
  | agg cs =>
    simp only [Rel] at hr ⊢
    obtain ⟨c, h1, h2⟩ := hr
    exact ⟨c, h1, idFrees_free h h2⟩
  | _ => exact idFree_free h hr
theorem mapUp_sound {t : TypeId} {s k q : Option SV} {m kv v : Value} (hH : Holds x ν H w) (hs : ∀ u, s = some u → Rel ν u m) (hk : ∀ u, k = some u → Rel ν u kv) (hq : ∀ u, q = some u → Rel ν u v)
    (hr : R1OK Q (sMapUp (tyMap P t) H ν.nx s k q)) : OpR P x ν w (do Instr.mapUpdate t m kv v; pure .skip) Q := by
  unfold sMapUp at hr
  split at hr
  case h_2 => exact hr.elim
  rename_i id k u
  have h1 := hs _ rfl
  have h2 := hk _ rfl
  have hu := hq _ rfl
  simp only [Rel] at h1
  obtain ⟨_, rfl⟩ := h1
  unfold sMapUpIn at hr
  split at hr
  case h_2 => exact hr.elim
  rename_i ag ks f ag' ks' ns hb hks
  split at hr
  case h_2 => exact hr.elim
  rename_i ag'' ks'' z ht
  split at hr
  case isFalse => exact hr.elim
  rename_i hc
  obtain ⟨rfl, rfl, rfl, rfl, hfree⟩ := hc
  have hr : Q undefS (H.set id (.map ag ks fun q => if q = ns then some u else f q)) ν.nx := hr
  obtain ⟨kt, e, zv, hut, hK, hz, hzr⟩ := tyMap_eq ht
  obtain ⟨hnl, rfl⟩ := keyS_rel hks h2
  obtain ⟨hid, es, clock, hes, hM⟩ := hH.ok id _ hb
  have hlt : ν.blk id < w.heap.size := (Array.getElem?_eq_some_iff.1 hes).1
  obtain ⟨r, hf, hr2⟩ := hK.find hnl hM
  have hchk := fun em w => hK.check (em := em) hnl w
  have hunf := idFree'_free hfree hu
  have fin : ∀ (es' : Array MapEntry) (clock' : Nat), (Instr.mapUpdate t (.map (some (ν.blk id))) (keyV ag ks ns) v).run P w = .ok () { w with heap := w.heap.setIfInBounds (ν.blk id) (.map es' clock') } → MapOK ν ag ks (fun q => if q = ns then some u else f q) es'.toList →
      OpR P x ν w (do Instr.mapUpdate t (.map (some (ν.blk id))) (keyV ag ks ns) v; pure .skip) Q := by
    intro es' clock' hrun hM'
    refine ⟨undef, { w with heap := w.heap.setIfInBounds (ν.blk id) (.map es' clock') }, ν, undefS, _, .inr ⟨by simp [hrun], rfl⟩, .refl _, ?_, rfl, hr⟩
    refine hH.write hb trivial (fun k hk => by simp [Array.getElem?_setIfInBounds, Ne.symm hk]) (by simp) ⟨rfl, rfl, rfl⟩ ⟨hid, es', clock', by simp [hlt], hM'⟩
  cases r with
  | none =>
    refine fin (es.push ⟨keyV ag ks ns, v, clock⟩) (clock + 1) ?_ ⟨hM.one, fun e' he' => ?_, fun ms s' hml hms => ?_, ?_⟩
    · simp [Instr.mapUpdate, run_underlying hut, getObj, setObj, Sem.run, hes, hchk, hf]
    · simp only [Array.toList_push, List.mem_append, List.mem_singleton] at he'
      rcases he' with he' | rfl
      · obtain ⟨ms, s', h3, h4, h5, h6⟩ := hM.in_ e' he'
        refine ⟨ms, s', h3, h4, ?_, h6⟩
        show (if ms = ns then some u else f ms) = some s'
        rw [if_neg]
        · exact h5
        · rintro rfl; exact hr2 e' he' h4
      · exact ⟨ns, u, hnl, rfl, by simp, hunf⟩
    · simp only [Array.toList_push, List.mem_append, List.mem_singleton]
      replace hms : (if ms = ns then some u else f ms) = some s' := hms
      split at hms
      · rename_i heq; subst heq
        exact ⟨_, .inr rfl, rfl⟩
      · obtain ⟨e', h3, h4⟩ := hM.out ms s' hml hms
        exact ⟨e', .inl h3, h4⟩
    · simp only [Array.toList_push, List.map_append, List.map_cons, List.map_nil]
      rw [List.nodup_append]
      refine ⟨hM.nd, by simp, fun a ha b hb hab => ?_⟩
      simp only [List.mem_singleton] at hb
      simp only [List.mem_map] at ha
      obtain ⟨e', h3, rfl⟩ := ha
      exact hr2 e' h3 (hab.trans hb)
  | some jv =>
    obtain ⟨j, v0⟩ := jv
    obtain ⟨en, h3, h4, rfl⟩ := hr2
    have h3' : es[j]? = some en := by simpa using h3
    have hjlt : j < es.size := (Array.getElem?_eq_some_iff.1 h3').1
    have hkey : ((es[j]?).map (·.key)).getD (keyV ag ks ns) = keyV ag ks ns := by rw [h3']; exact h4
    have hget : ∀ q, (es.modify j fun e => { e with key := keyV ag ks ns, val := v })[q]? = if j = q then some { en with key := keyV ag ks ns, val := v } else es[q]? := by
      intro q
      rw [Array.getElem?_modify]
      split
      · rename_i e; subst e; rw [h3']; rfl
      · rfl
    have hmem : ∀ e', e' ∈ (es.modify j fun e => { e with key := keyV ag ks ns, val := v }).toList → e' = { en with key := keyV ag ks ns, val := v } ∨ (∃ q, q ≠ j ∧ es[q]? = some e') := by
      intro e' he'
      obtain ⟨q, hq⟩ := List.getElem?_of_mem he'
      rw [Array.getElem?_toList, hget] at hq
      split at hq
      · simp only [Option.some.injEq] at hq; exact .inl hq.symm
      · rename_i hne; exact .inr ⟨q, fun e => hne e.symm, hq⟩
    have hnd : ∀ q e', q ≠ j → es[q]? = some e' → e'.key ≠ keyV ag ks ns := by
      intro q e' hne hq heq
      have hql : q < es.size := (Array.getElem?_eq_some_iff.1 hq).1
      have := (List.getElem?_inj (i := q) (j := j) (by simpa using hql) hM.nd).1 (by
        simp only [List.getElem?_map, Array.getElem?_toList, hq, h3', Option.map_some, heq, h4])
      exact hne this
    refine fin (es.modify j fun e => { e with key := keyV ag ks ns, val := v }) clock ?_ ⟨hM.one, fun e' he' => ?_, fun ms s' hml hms => ?_, ?_⟩
    · simp [Instr.mapUpdate, run_underlying hut, getObj, setObj, Sem.run, hes, hchk, hf, hkey, Instr.keyThatStays, sameBits_key]
    · rcases hmem e' he' with rfl | ⟨q, hne, hq⟩
      · exact ⟨ns, u, hnl, rfl, by simp, hunf⟩
      · have hin : e' ∈ es.toList := List.mem_of_getElem? (i := q) (by simpa using hq)
        obtain ⟨ms, s', k3, k4, k5, k6⟩ := hM.in_ e' hin
        refine ⟨ms, s', k3, k4, ?_, k6⟩
        show (if ms = ns then some u else f ms) = some s'
        rw [if_neg]
        · exact k5
        · rintro rfl; exact hnd q e' hne hq k4
    · replace hms : (if ms = ns then some u else f ms) = some s' := hms
      split at hms
      · rename_i heq; subst heq
        refine ⟨{ en with key := keyV ag ks ms, val := v }, List.mem_of_getElem? (i := j) ?_, rfl⟩
        rw [Array.getElem?_toList, hget, if_pos rfl]
      · rename_i hne
        obtain ⟨e', k3, k4⟩ := hM.out ms s' hml hms
        obtain ⟨q, hq⟩ := List.getElem?_of_mem k3
        have hqj : j ≠ q := by
          rintro rfl
          rw [h3] at hq
          simp only [Option.some.injEq] at hq
          subst hq
          exact hne (keyV_inj hM.one hml hnl (k4.symm.trans h4))
        refine ⟨e', List.mem_of_getElem? (i := q) ?_, k4⟩
        rw [Array.getElem?_toList, hget, if_neg hqj]
        simpa using hq
    · have : (es.modify j fun e => { e with key := keyV ag ks ns, val := v }).toList.map (·.key) = es.toList.map (·.key) := by
        apply List.ext_getElem?
        intro q
        simp only [List.getElem?_map, Array.getElem?_toList, hget]
        split
        · rename_i e; subst e; rw [h3']; simp [h4]
        · rfl
      rw [this]; exact hM.nd
theorem range_sound {t : TypeId} {s : Option SV} {y : Value} (hH : Holds x ν H w) (hs : ∀ u, s = some u → Rel ν u y) (hr : R1OK Q (sRange (P.underlying t) H ν.nx s)) : OpR P x ν w (do pure (.value (← Instr.range t y))) Q := by
  unfold sRange at hr
  split at hr
  case h_2 => exact hr.elim
  rename_i b
  split at hr
  case h_2 => exact hr.elim
  rename_i hu
  have h1 := hs _ rfl
  simp only [Rel] at h1
  subst h1
  have hr : Q (.ptr ν.nx 0 0 0) ((ν.nx, .obj (.stringIter b 0)) :: H) (ν.nx + 1) := hr
  refine ⟨.pointer (some ⟨w.heap.size, 0, none⟩), { w with heap := w.heap.push (.stringIter b 0) }, ν.name w.heap.size, .ptr ν.nx 0 0 0, _, .inl ?_, Grows.name _ _, hH.push (o := .stringIter b 0) rfl ⟨rfl, rfl, rfl⟩ ?_, ?_, hr⟩
  · simp [Instr.range, run_underlying hu, newObj, Sem.run]
  · exact ⟨Nat.lt_succ_self _, fun c T fz h => by simp at h, by rw [Nm.name_blk]; simp⟩
  · exact ⟨Nat.lt_succ_self _, by rw [Nm.name_blk]⟩
theorem next_sound {t : TypeId} {s : Option SV} {y : Value} (hH : Holds x ν H w) (hs : ∀ u, s = some u → Rel ν u y) (hr : R1OK Q (sNext H ν.nx s)) : OpR P x ν w (do pure (.value (← Instr.next y true t))) Q := by
  unfold sNext at hr
  split at hr
  case h_2 => exact hr.elim
  rename_i id
  have h1 := hs _ rfl
  simp only [Rel] at h1
  obtain ⟨_, rfl⟩ := h1
  unfold sNextIn at hr
  split at hr
  case h_2 => exact hr.elim
  rename_i b pos hb
  obtain ⟨hid, hne, hes⟩ := hH.ok id _ hb
  have hlt : ν.blk id < w.heap.size := (Array.getElem?_eq_some_iff.1 hes).1
  split at hr
  · rename_i hp
    have hr : Q (.tup [.v (.bool true), .v (.int .i64 pos), .v (.int .i32 (Utf8.decode b pos).1)]) (H.set id (.obj (.stringIter b (pos + (Utf8.decode b pos).2)))) ν.nx := hr
    refine ⟨.tuple #[.bool true, .int .i64 pos, .int .i32 (Utf8.decode b pos).1], { w with heap := w.heap.setIfInBounds (ν.blk id) (.stringIter b (pos + (Utf8.decode b pos).2)) }, ν, _, _, .inl ?_, .refl _, ?_, ?_, hr⟩
    · simp only [Instr.next, getObj, setObj, Sem.run_bind, Sem.run, hes, Result.andThen, hp, if_true]
      simp [goInt]
    · exact hH.write hb trivial (fun k hk => by simp [Array.getElem?_setIfInBounds, Ne.symm hk]) (by simp) ⟨rfl, rfl, rfl⟩ ⟨hid, fun c T fz h => by simp at h, by simp [hlt]⟩
    · simp [Rel, RelL]
  · rename_i hp
    have hr : Q (.tup [.v (.bool false)]) H ν.nx := hr
    refine ⟨.tuple #[.bool false], w, ν, _, _, .inl ?_, .refl _, hH, ?_, hr⟩
    · simp [Instr.next, getObj, Sem.run, hes, hp]
    · simp [Rel, RelL]
end
end Go.Sy

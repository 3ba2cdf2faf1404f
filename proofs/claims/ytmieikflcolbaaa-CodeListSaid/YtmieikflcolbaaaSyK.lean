/- copy, make, cap, min, max: the built-in functions. No condition. -/
import Derived.Test.YtmieikflcolbaaaSyI
namespace Go.Sy
open Go
set_option linter.unusedSimpArgs false
set_option linter.unusedVariables false
section
variable {P : Program} {x : Ctx} {ν : Nm} {H : Heap} {w : World} {Q : SV → Heap → Nat → Prop}
theorem sliceT_eq {d : Option TypeDesc} {e : TypeId} (h : sliceT d = some e) : d = some (.slice e) := by
  unfold sliceT at h
  split at h
  · simp only [Option.some.injEq] at h; rw [h]
  · exact absurd h (by simp)
theorem copy_sound {t u ty : TypeId} {s q : Option SV} {a b : Value} (hH : Holds x ν H w) (hs : ∀ r, s = some r → Rel ν r a) (hq : ∀ r, q = some r → Rel ν r b)
    (hr : R1OK Q (sCopy (sliceT (P.underlying t)) (obind (tySize P) (sliceT (P.underlying t))) H ν.nx s q)) :
    OpR P x ν w (do pure (.value (← Builtin.copy_ #[t, u] ty #[a, b]))) Q := by
  unfold sCopy at hr
  split at hr
  case h_2 => exact hr.elim
  rename_i e sz he hsz
  split at hr
  · exact hr.elim
  rename_i hsz0
  split at hr
  case h_2 => exact hr.elim
  rename_i p ys hsrc
  split at hr
  case h_2 => exact hr.elim
  rename_i id s' off len cap
  split at hr
  case isFalse => exact hr.elim
  rename_i hss
  subst hss
  split at hr
  case h_2 => exact hr.elim
  rename_i s'' c T xs hb
  split at hr
  case isFalse => exact hr.elim
  rename_i hss
  subst hss
  obtain ⟨⟨hp, hon, hlc, hcc⟩, hr⟩ := hr
  have hr2 : Q (.v (.int .i64 (min ys.length len : Nat))) (H.set id (.row s'' c T (xs.take off ++ (ys.take len ++ xs.drop (off + min ys.length len))))) ν.nx := hr ⟨hp, hon, hlc, hcc⟩
  clear hr
  have ht := sliceT_eq he
  rw [he] at hsz
  obtain ⟨cs, hsrc⟩ := src_sound hH hq hsrc hp
  have hk : min ys.length len ≤ ys.length := Nat.min_le_left _ _
  have hkl : min ys.length len ≤ len := Nat.min_le_right _ _
  have hmin : Nat.min ys.length len = min ys.length len := rfl
  have htk : ys.take len = ys.take (min ys.length len) := by
    rcases Nat.le_total ys.length len with h | h
    · rw [Nat.min_eq_left h, List.take_of_length_le h, List.take_length]
    · rw [Nat.min_eq_right h]
  rw [htk] at hr2
  generalize min ys.length len = q at hr2 hk hkl hmin
  have hfc := hsrc.first (P := P) hk w rfl
  have hlen : (Builtin.lenOf b).run P w = .ok ys.length w := by
    obtain ⟨ba, cap', rfl, _⟩ := hsrc
    simp [Builtin.lenOf]
  obtain ⟨ba, bcap, _, _, yrows, yrel, yones, _⟩ := hsrc
  have hyl := yrel.length yrows
  obtain ⟨hid, hnc, hrows, os, hrel, hones, hrw⟩ := hH.ok id _ hb
  have hxl := hrel.length hrows
  have hsl := hs _ rfl
  simp only [Rel] at hsl
  obtain ⟨_, base, rfl, hbase⟩ := hsl
  have hqle : q * s'' ≤ cs.length := by rw [hyl]; exact Nat.mul_le_mul_right _ hk
  have hrun : ∀ w', (storeB base 0 (cs.take (q * s''))).run P w = .ok () w' → (do pure (.value (← Builtin.copy_ #[t, u] ty #[.slice base len cap, b])) : Sem Next).run P w = .ok (.value (.int .i64 (q : Nat))) w' := by
    intro w' hst
    cases base with
    | none =>
      have hw : w = w' := by simpa [storeB] using hst
      subst hw
      simp [Builtin.copy_, run_underlying ht, run_sizeOf hsz, hlen, hfc, goInt, hmin]
    | some a =>
      have hst' : (storeCells a (cs.take (q * s''))).run P w = .ok () w' := by simpa [storeB, Addr.add] using hst
      simp [Builtin.copy_, run_underlying ht, run_sizeOf hsz, hlen, hfc, goInt, hmin, hst']
  by_cases hk0 : q = 0
  · subst hk0
    refine ⟨_, w, ν, _, _, .inl (hrun w (by simp only [Nat.zero_mul, List.take_zero]; exact storeB_nil _ _ _)), .refl _, ?_, rel_v, hr2⟩
    refine hH.less fun i b' hi => ?_
    rw [Heap.get_set] at hi
    split at hi
    · rename_i e; subst e
      simp only [hb, Option.map_some, Option.some.injEq] at hi
      rw [hb, ← hi]
      simp
    · exact hi
  · have hcap : 0 < cap := by omega
    obtain ⟨cc, h1, h2, h3⟩ := hrw (hcc hcap)
    have hb0 := hbase hcap
    subst hb0
    have hmul : off * s'' + q * s'' ≤ os.length := by
      rw [hxl, ← Nat.add_mul]; exact Nat.mul_le_mul_right _ (by omega)
    have hmul2 : xs.length * s'' ≤ c * s'' := Nat.mul_le_mul_right _ hnc
    have hfl : (cs.take (q * s'')).length = q * s'' := by simp; omega
    have hst := run_storeCells_at (P := P) (ν.blk id) (off * s'') T (cs.take (q * s'')) 0 cc w h1 (by omega) (fun v hv => yones v (List.mem_of_mem_take hv))
    simp only [Nat.add_zero] at hst
    have hnewl : (xs.take off ++ (ys.take q ++ xs.drop (off + q))).length = xs.length := by simp; omega
    have eoq : (off + q) * s'' = off * s'' + q * s'' := Nat.add_mul _ _ _
    refine ⟨_, w.setRow (ν.blk id) (cc.toList.take (off * s'') ++ cs.take (q * s'') ++ cc.toList.drop (off * s'' + (cs.take (q * s'')).length)).toArray, ν, _, _, .inl (hrun _ (by simp only [storeB, add_eq, Nat.add_zero]; exact hst)), .refl _, ?_, rel_v, hr2⟩
    refine hH.write hb (hcc hcap) (fun k hk => setRow_other _ _ _ _ hk) (by simp) (fix_setRow _ _ _) ⟨hid, by rw [hnewl]; exact hnc, (hrows.take _).append ((yrows.take _).append (hrows.drop _)), _, (hrel.take hrows _).append ((yrel.take yrows _).append (hrel.drop hrows _)), fun v hv => ?_, fun hcx => ⟨(cc.toList.take (off * s'') ++ cs.take (q * s'') ++ cc.toList.drop (off * s'' + (cs.take (q * s'')).length)).toArray, setRow_heap w _ _ _ _ _ h1, ?_, fun j hj => ?_⟩⟩
    · simp only [List.mem_append] at hv
      rcases hv with hv | hv | hv
      · exact hones v (List.mem_of_mem_take hv)
      · exact yones v (List.mem_of_mem_take hv)
      · exact hones v (List.mem_of_mem_drop hv)
    · simp only [List.size_toArray, List.length_append, List.length_take, List.length_drop, Array.length_toList]
      omega
    · have hsp := splice_get cc.toList (cs.take (q * s'')) (off * s'') j (by rw [hfl]; simp; omega)
      have hsp2 := splice_get os (cs.take (q * s'')) (off * s'') j (by rw [hfl]; exact hmul)
      rw [eoq, ← List.append_assoc]
      rw [eoq, ← List.append_assoc] at hj
      simp only [List.getElem?_toArray, hsp]
      rw [hfl] at hsp2 ⊢
      rw [hsp2]
      split
      · rfl
      · rw [← h3 j (by simp only [List.length_append, List.length_take, List.length_drop] at hj; omega)]; simp
theorem makeSlice_sound {t : TypeId} {s q : Option SV} {a b : Value} (hH : Holds x ν H w) (hs : ∀ r, s = some r → Rel ν r a) (hq : ∀ r, q = some r → Rel ν r b)
    (hr : R1OK Q (sMakeSlice (sliceT (P.underlying t)) (obind (tySize P) (sliceT (P.underlying t))) (obind (tyBytes P) (sliceT (P.underlying t))) (obind (tyZero P) (sliceT (P.underlying t))) H ν.nx s q)) :
    OpR P x ν w (do pure (.value (← Instr.makeSlice t a b))) Q := by
  unfold sMakeSlice at hr
  split at hr
  case h_2 => exact hr.elim
  rename_i k1 l k2 c
  split at hr
  case h_2 => exact hr.elim
  rename_i e sz by' zs he hsz hby hzz
  split at hr
  case isFalse => exact hr.elim
  rename_i hzl
  obtain ⟨⟨h1, h2, h3, h4, h5⟩, hr⟩ := hr
  have hr2 : Q (.sl ν.nx sz 0 l.toNat c.toNat) ((ν.nx, .row sz c.toNat e (List.replicate l.toNat (svs zs))) :: H) (ν.nx + 1) := hr ⟨h1, h2, h3, h4, h5⟩
  clear hr
  have ha := hs _ rfl
  have hb := hq _ rfl
  simp only [Rel] at ha hb
  subst ha; subst hb
  have ht := sliceT_eq he
  rw [he] at hsz hby hzz
  simp only [obind, tySize, tyBytes, tyZero, Option.map_eq_some_iff, Option.bind_eq_some_iff] at hsz hby hzz
  obtain ⟨i, hi, rfl⟩ := hsz
  obtain ⟨i', hi', rfl⟩ := hby
  obtain ⟨z, ⟨i'', hi'', hz⟩, rfl⟩ := hzz
  obtain rfl : i = i' := Option.some.inj (hi.symm.trans hi')
  obtain rfl : i = i'' := Option.some.inj (hi.symm.trans hi'')
  have hzs : z.cells.size = i.size := by simpa using hzl
  have hwl := wrap_i64' (x := l) (by omega) (by omega)
  have hwc := wrap_i64' (x := c) (by omega) h3
  have hc0 : ¬ c < 0 := by omega
  have hl0 : ¬ l < 0 := by omega
  have hlc : ¬ l > c := by omega
  have h48 : ¬ (281474976710656 < (i.bytes : Int) * c) := by omega
  have hcells : ((Array.range (c.toNat * i.size)).map (z.cells[· % z.cells.size]!)).toList = repeatL z.cells.toList c.toNat := by
    have := zeros_eq z.cells c.toNat
    rw [hzs] at this ⊢
    exact this
  have hrun : (do pure (.value (← Instr.makeSlice t (.int k1 l) (.int k2 c))) : Sem Next).run P w =
      .ok (.value (.slice (some ⟨w.heap.size, 0, none⟩) l.toNat c.toNat)) (w.alloc (.cells ((Array.range (c.toNat * i.size)).map (z.cells[· % z.cells.size]!)) e)) := by
    by_cases h0 : c.toNat * i.size = 0
    · have h01 : (Array.range (c.toNat * i.size)).map (z.cells[· % z.cells.size]!) = #[] := by rw [h0]; simp
      rw [h01]
      simp [Instr.makeSlice, run_underlying ht, asInt, asIntOf, run_typeInfo' hi, hwl, hwc, hc0, hl0, Int.not_lt.2 h2, h48, run_sizeOf' hi, h0, newRow]
      congr 2
      apply Array.ext'
      simp
    · simp [Instr.makeSlice, run_underlying ht, asInt, asIntOf, run_typeInfo' hi, hwl, hwc, hc0, hl0, Int.not_lt.2 h2, h48, run_sizeOf' hi, run_zero' hi hz, h0, newRow]
  have hsplit : repeatL z.cells.toList c.toNat = repeatL z.cells.toList l.toNat ++ repeatL z.cells.toList (c.toNat - l.toNat) := by
    have : ∀ (n m : Nat), repeatL z.cells.toList (n + m) = repeatL z.cells.toList n ++ repeatL z.cells.toList m := by
      intro n m
      induction n with
      | zero => simp [repeatL]
      | succ n ih => rw [Nat.succ_add]; simp only [repeatL, ih, List.append_assoc]
    rw [← this]; congr 1; omega
  refine ⟨_, _, ν.name w.heap.size, .sl ν.nx i.size 0 l.toNat c.toNat, _, .inl hrun, Grows.name _ _, ?_, ?_, hr2⟩
  · refine hH.pushRow (ys := repeatL z.cells.toList l.toNat) (zs := repeatL z.cells.toList (c.toNat - l.toNat)) (rows_replicate hzl _) (relLL_replicate _ _) (fun v hv => (List.all_eq_true.1 h5) v (repeatL_mem hv)) (by simp; omega) (by rw [hcells, hsplit]) (by rw [repeatL_length]; simp [hzs]) rfl ⟨rfl, rfl, rfl⟩
  · exact ⟨Nat.lt_succ_self _, _, rfl, fun _ => by simp [Nm.name_blk]⟩
theorem min2_eq (a b : Int) : (if b < a then b else a) = min a b := by split <;> omega
theorem max2_eq (a b : Int) : (if b > a then b else a) = max a b := by split <;> omega
theorem minMax_sound {mx : Bool} {ss : List (Option SV)} {vs : List Value} {tys : Array TypeId} {ty : TypeId} (hs : ss.length = vs.length ∧ ∀ (i : Nat) s, ss[i]? = some (some s) → ∃ v, vs[i]? = some v ∧ Rel ν s v) (hr : R1OK Q (sMinMax mx H ν.nx ss)) :
    OpQ P ν w (do pure (.value (← (if mx then Builtin.max_ tys ty vs.toArray else Builtin.min_ tys ty vs.toArray)))) fun s => Q s H ν.nx := by
  unfold sMinMax at hr
  split at hr
  · rename_i k a k' b
    obtain ⟨hl, hs⟩ := hs
    obtain ⟨v, h1, h2⟩ := hs 0 _ rfl
    obtain ⟨u, h3, h4⟩ := hs 1 _ rfl
    simp only [Rel] at h2 h4
    subst h2; subst h4
    match vs, hl, h1, h3 with
    | [v, u], _, h1, h3 =>
      simp at h1 h3
      subst h1; subst h3
      cases mx with
      | true => exact .same (v := .int k (max a b)) (by simp [Builtin.max_, Builtin.max2, ← max2_eq]) rel_v hr
      | false => exact .same (v := .int k (min a b)) (by simp [Builtin.min_, Builtin.min2, ← min2_eq]) rel_v hr
  · rename_i k a k' b k'' c
    obtain ⟨hl, hs⟩ := hs
    obtain ⟨v, h1, h2⟩ := hs 0 _ rfl
    obtain ⟨u, h3, h4⟩ := hs 1 _ rfl
    obtain ⟨z, h5, h6⟩ := hs 2 _ rfl
    simp only [Rel] at h2 h4 h6
    subst h2; subst h4; subst h6
    match vs, hl, h1, h3, h5 with
    | [v, u, z], _, h1, h3, h5 =>
      simp at h1 h3 h5
      subst h1; subst h3; subst h5
      cases mx with
      | true => exact .same (v := .int k (max (max a b) c)) (by simp [Builtin.max_, Builtin.max2, ← max2_eq]) rel_v hr
      | false => exact .same (v := .int k (min (min a b) c)) (by simp [Builtin.min_, Builtin.min2, ← min2_eq]) rel_v hr
  · exact hr.elim
theorem clear_sound {t ty : TypeId} {s : Option SV} {a : Value} (hH : Holds x ν H w) (hs : ∀ r, s = some r → Rel ν r a)
    (hr : R1OK Q (sClear (sliceT (P.underlying t)) (obind (tySize P) (sliceT (P.underlying t))) (obind (tyZero P) (sliceT (P.underlying t))) H ν.nx s)) :
    OpR P x ν w (do pure (.value (← Builtin.clear_ #[t] ty #[a]))) Q := by
  unfold sClear at hr
  split at hr
  case h_2 => exact hr.elim
  rename_i id s' off len cap
  split at hr
  case h_2 => exact hr.elim
  rename_i e sz zs he hsz hzz
  split at hr
  case isFalse => exact hr.elim
  rename_i hss
  subst hss
  split at hr
  case h_2 => exact hr.elim
  rename_i s'' c T xs hb
  split at hr
  case isFalse => exact hr.elim
  rename_i hss
  subst hss
  obtain ⟨⟨hxo, hoc, hlc, hzl, hz1⟩, hr⟩ := hr
  have hr2 : Q undefS (H.set id (.row s'' c T xs)) ν.nx := hr ⟨hxo, hoc, hlc, hzl, hz1⟩
  clear hr
  have ht := sliceT_eq he
  rw [he] at hsz hzz
  simp only [obind, tySize, tyZero, Option.map_eq_some_iff, Option.bind_eq_some_iff] at hsz hzz
  obtain ⟨i, hi, rfl⟩ := hsz
  obtain ⟨z, ⟨i'', hi'', hz⟩, rfl⟩ := hzz
  obtain rfl : i = i'' := Option.some.inj (hi.symm.trans hi'')
  have hsl := hs _ rfl
  simp only [Rel] at hsl
  obtain ⟨_, base, rfl, hbase⟩ := hsl
  obtain ⟨hid, hnc, hrows, os, hrel, hones, hrw⟩ := hH.ok id _ hb
  have hxl := hrel.length hrows
  by_cases hl0 : len = 0
  · subst hl0
    refine ⟨undef, w, ν, _, _, .inl ?_, .refl _, ?_, rel_v, hr2⟩
    · cases base <;> simp [Builtin.clear_, run_underlying ht, undef]
    · refine hH.less fun k b' hk => ?_
      rw [Heap.get_set] at hk
      split at hk
      · rename_i e; subst e
        simp only [hb, Option.map_some, Option.some.injEq] at hk
        rw [hb, ← hk]
      · exact hk
  · have hcap : 0 < cap := by omega
    have hc0 : c ≠ 0 := by omega
    obtain ⟨cc, h1, h2, h3⟩ := hrw hc0
    have hb0 := hbase hcap
    subst hb0
    have hcl : (repeatL z.cells.toList len).length = len * i.size := by rw [repeatL_length, hzl]
    have hmul : off * i.size + len * i.size ≤ cc.size := by
      rw [h2, ← Nat.add_mul]; exact Nat.mul_le_mul_right _ hoc
    have hos : os.length ≤ off * i.size := by rw [hxl]; exact Nat.mul_le_mul_right _ hxo
    have hst := run_storeCells_at (P := P) (ν.blk id) (off * i.size) T (repeatL z.cells.toList len) 0 cc w h1 (by rw [hcl]; omega) (fun v hv => (List.all_eq_true.1 hz1) v (repeatL_mem hv))
    simp only [Nat.add_zero] at hst
    have hlen2 : ∃ n, len = n + 1 := ⟨len - 1, by omega⟩
    have hrun : (do pure (.value (← Builtin.clear_ #[t] ty #[.slice (some ⟨ν.blk id, off * i.size, none⟩) len cap])) : Sem Next).run P w = .ok (.value undef) (w.setRow (ν.blk id) (cc.toList.take (off * i.size) ++ repeatL z.cells.toList len ++ cc.toList.drop (off * i.size + (repeatL z.cells.toList len).length)).toArray) := by
      obtain ⟨n, rfl⟩ := hlen2
      have hzr : (zeroValue e).run P w = .ok z w := run_zero' hi hz w
      rw [← zeroCells_eq] at hst ⊢
      simp [Builtin.clear_, run_underlying ht, hzr, hst, undef]
    refine ⟨undef, _, ν, _, _, .inl hrun, .refl _, ?_, rel_v, hr2⟩
    refine hH.write hb hc0 (fun k hk => setRow_other _ _ _ _ hk) (by simp) (fix_setRow _ _ _) ⟨hid, hnc, hrows, os, hrel, hones, fun _ => ⟨(cc.toList.take (off * i.size) ++ repeatL z.cells.toList len ++ cc.toList.drop (off * i.size + (repeatL z.cells.toList len).length)).toArray, setRow_heap w _ _ _ _ _ h1, ?_, fun j hj => ?_⟩⟩
    · simp only [List.size_toArray, List.length_append, List.length_take, List.length_drop, Array.length_toList]
      omega
    · have hsp := splice_get cc.toList (repeatL z.cells.toList len) (off * i.size) j (by rw [hcl]; simpa using hmul)
      simp only [List.getElem?_toArray, hsp]
      rw [if_neg (by omega), ← h3 j hj]; simp
theorem builtin_sound {b : Builtin} {nt : Nat} {env : Env} {a : Act} {args : List Operand} {tys : List TypeId} {ty : TypeId} {consts : Array Bool} (hE : RelE ν nt env a.tmps) (hH : Holds x ν H w) (hr : R1OK Q (sBuiltin P x.gl env H ν.nx b args tys)) :
    OpR P x ν w (builtin b tys.toArray ty consts (args.map a.eval).toArray) Q := by
  have he : ∀ (y : Operand) q, ev x.gl env y = some q → Rel ν q (a.eval y) := fun y q h => ev_rel hH.glOK hE h
  unfold sBuiltin at hr
  split at hr
  · exact (len_sound (he _) hr).toR hH
  · exact (cap_sound (he _) hr).toR hH
  · exact append_sound hH (he _) (he _) hr
  · exact copy_sound hH (he _) (he _) hr
  · refine (minMax_sound (mx := true) (tys := tys.toArray) (ty := ty) ⟨by simp, fun i s hi => ?_⟩ hr).toR hH
    simp only [List.getElem?_map, Option.map_eq_some_iff] at hi
    obtain ⟨y, h1, h2⟩ := hi
    exact ⟨a.eval y, by simp [h1], he y s h2⟩
  · refine (minMax_sound (mx := false) (tys := tys.toArray) (ty := ty) ⟨by simp, fun i s hi => ?_⟩ hr).toR hH
    simp only [List.getElem?_map, Option.map_eq_some_iff] at hi
    obtain ⟨y, h1, h2⟩ := hi
    exact ⟨a.eval y, by simp [h1], he y s h2⟩
  · exact clear_sound hH (he _) hr
  · exact hr.elim
theorem builtin_soundC {b : Builtin} {nt : Nat} {env : Env} {a : Act} {args : List Operand} {tys : List TypeId} {ty : TypeId} {consts : Array Bool} (hE : RelE ν nt env a.tmps) (hH : Holds x ν H w) (hr : R1OK Q (sBuiltinC P x.gl env H ν.nx b args tys)) :
    OpR P x ν w (builtin b tys.toArray ty consts (args.map a.eval).toArray) Q := by
  have he : ∀ (y : Operand) q, ev x.gl env y = some q → Rel ν q (a.eval y) := fun y q h => ev_rel hH.glOK hE h
  unfold sBuiltinC at hr
  split at hr
  · exact append_soundC hH (he _) (he _) hr
  · exact hr.elim
end
end Go.Sy

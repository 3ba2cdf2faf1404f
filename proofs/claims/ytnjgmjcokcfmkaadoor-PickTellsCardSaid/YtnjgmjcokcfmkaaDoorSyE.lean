/- Each operation of the executor is what the model does: the rest. No condition. -/
import Derived.Test.YtnjgmjcokcfmkaaDoorSyD
import Derived.ChangeKeysEq
namespace Go.Sy
open Go
set_option linter.unusedSimpArgs false
set_option linter.unusedVariables false

section
variable {P : Program} {x : Ctx} {ν : Nm} {H : Heap} {w : World} {Q : SV → Heap → Nat → Prop}

theorem rel_v {y : Value} : Rel ν (.v y) y := rfl
theorem OpQ.same {m : Sem Next} {v : Value} {s : SV} (hm : ∀ w', m.run P w' = .ok (.value v) w') (hs : Rel ν s v) (hQ : Q s H ν.nx) : OpQ P ν w m fun s => Q s H ν.nx :=
  ⟨v, s, fun w' _ => hm w', hs, hQ⟩
theorem rOf_ok {s : Option SV} (hr : R1OK Q (rOf s H ν.nx)) : ∃ u, s = some u ∧ Q u H ν.nx := by
  cases s with
  | none => simp [rOf, R1OK] at hr
  | some u => exact ⟨u, rfl, hr⟩

theorem move_sound {s : Option SV} {y : Value} (hs : ∀ u, s = some u → Rel ν u y) (hr : R1OK Q (rOf s H ν.nx)) : OpQ P ν w (pure (.value y)) fun s => Q s H ν.nx := by
  obtain ⟨u, rfl, h⟩ := rOf_ok hr
  exact OpQ.same (v := y) (fun _ => rfl) (hs u rfl) h

theorem pick_sound {s t u : Option SV} {a b c : Value} (hs : ∀ q, s = some q → Rel ν q a) (ht : ∀ q, t = some q → Rel ν q b) (hu : ∀ q, u = some q → Rel ν q c)
    (hr : R1OK Q (sPick s t u H ν.nx)) : OpQ P ν w (do pure (.value (if ← asBool a then b else c))) fun s => Q s H ν.nx := by
  unfold sPick at hr
  split at hr
  · have := hs _ rfl
    simp only [Rel] at this; subst this
    obtain ⟨q, rfl, h⟩ := rOf_ok hr
    exact .same (by simp [asBool]) (ht q rfl) h
  · have := hs _ rfl
    simp only [Rel] at this; subst this
    obtain ⟨q, rfl, h⟩ := rOf_ok hr
    exact .same (by simp [asBool]) (hu q rfl) h
  · exact hr.elim

theorem nil_sound {s : Option SV} {y : Value} {o : Oper} {op : Operand} {ρ : Operand → Value} (ho : o.op = .nilCheck op) (hy : ρ op = y) (hs : ∀ q, s = some q → Rel ν q y) (hr : R1OK Q (sNil H ν.nx s)) : OpQ P ν w (execOp ρ o) fun s => Q s H ν.nx := by
  unfold sNil at hr
  split at hr
  · have h := hs _ rfl
    have h' := h
    simp only [Rel] at h; obtain ⟨_, rfl⟩ := h
    exact .same (by simp [execOp, ho, hy]) h' hr
  · have h := hs _ rfl
    have h' := h
    simp only [Rel] at h; obtain ⟨_, _, _, _, rfl, _⟩ := h
    exact .same (by simp [execOp, ho, hy]) h' hr
  · have h := hs _ rfl
    have h' := h
    simp only [Rel] at h; obtain ⟨fs, cs, rfl, _⟩ := h
    exact .same (by simp [execOp, ho, hy]) h' hr
  · have h := hs _ rfl
    have h' := h
    simp only [Rel] at h; subst h
    exact .same (by simp [execOp, ho, hy]) h' hr
  · have h := hs _ rfl
    have h' := h
    simp only [Rel] at h; subst h
    exact .same (by simp [execOp, ho, hy]) h' hr
  · exact hr.elim

theorem min_sh (y : Int) (b : Nat) : min y.toNat b = shAmt y b := by
  unfold shAmt
  split <;> omega
theorem int_run {op : BinOp} {k k' : IntKind} {a b : Int} {t : TypeId} (hr : R1OK Q (sInt op k k' a b H ν.nx)) :
    ∃ v, (∀ w, (binOp op t (.int k a) (.int k' b)).run P w = .ok v w) ∧ Q (.v v) H ν.nx := by
  unfold sInt at hr
  split at hr
  · obtain ⟨h, hr⟩ := hr
    exact ⟨_, by simp [binOp, Op.shift, Int.not_lt.2 h, min_sh], hr h⟩
  · obtain ⟨h, hr⟩ := hr
    exact ⟨_, by simp [binOp, Op.shift, Int.not_lt.2 h, min_sh], hr h⟩
  · split at hr
    case isFalse => exact hr.elim
    rename_i hk
    subst hk
    split at hr
    · exact ⟨_, by simp [binOp, Op.intArith], hr⟩
    · exact ⟨_, by simp [binOp, Op.intArith], hr⟩
    · exact ⟨_, by simp [binOp, Op.intArith], hr⟩
    · obtain ⟨h, hr⟩ := hr
      exact ⟨_, by simp [binOp, Op.intDiv, h], hr h⟩
    · obtain ⟨h, hr⟩ := hr
      exact ⟨_, by simp [binOp, Op.intDiv, h], hr h⟩
    · exact ⟨_, by intro w; simp only [binOp, Op.intCmp, ne_eq, not_true_eq_false, if_false]; rfl, hr⟩
    · exact ⟨_, by intro w; simp only [binOp, Op.intCmp, ne_eq, not_true_eq_false, if_false]; rfl, hr⟩
    · exact ⟨_, by intro w; simp only [binOp, Op.intCmp, ne_eq, not_true_eq_false, if_false]; rfl, hr⟩
    · exact ⟨_, by intro w; simp only [binOp, Op.intCmp, ne_eq, not_true_eq_false, if_false]; rfl, hr⟩
    · exact ⟨_, by intro w; simp only [binOp, Op.intCmp, ne_eq, not_true_eq_false, if_false]; rfl, hr⟩
    · exact ⟨_, by intro w; simp only [binOp, Op.intCmp, ne_eq, not_true_eq_false, if_false]; rfl, hr⟩
    · exact ⟨_, by intro w; simp only [binOp, Op.intBits, ne_eq, not_true_eq_false, if_false]; rfl, hr⟩
    · exact ⟨_, by intro w; simp only [binOp, Op.intBits, ne_eq, not_true_eq_false, if_false]; rfl, hr⟩
    · exact ⟨_, by intro w; simp only [binOp, Op.intBits, ne_eq, not_true_eq_false, if_false]; rfl, hr⟩
    · exact ⟨_, by intro w; simp only [binOp, Op.intBits, ne_eq, not_true_eq_false, if_false]; rfl, hr⟩
    · exact hr.elim

theorem eqIn_run {s u : SV} {a b : Value} {t : TypeId} {p : Prop} {r : Bool} (ha : Rel ν s a) (hb : Rel ν u b) (h : sEq (P.underlying t) s u = some (p, r)) (hp : p) (d : Nat) :
    (Op.equalIn (d + 1) t a b).run P w = .ok r w := by
  unfold sEq at h
  split at h <;> (try split at h) <;> first | (cases h; done) | skip
  all_goals (rename_i hd; simp only [Option.some.injEq, Prod.mk.injEq] at h; obtain ⟨rfl, rfl⟩ := h; simp only [Rel] at ha hb)
  · subst ha; subst hb
    simp only [Op.equalIn, Sem.run_bind, run_underlying hd, Result.andThen_ok]; rfl
  · obtain ⟨_, rfl⟩ := ha; subst hb
    simp only [Op.equalIn, Sem.run_bind, run_underlying hd, Result.andThen_ok]; rfl
  · obtain ⟨_, _, _, _, rfl, _⟩ := ha; subst hb
    simp only [Op.equalIn, Sem.run_bind, run_underlying hd, Result.andThen_ok]; rfl
  · obtain ⟨_, rfl⟩ := hb; subst ha
    simp only [Op.equalIn, Sem.run_bind, run_underlying hd, Result.andThen_ok]; rfl
  · subst ha; subst hb
    simp only [Op.equalIn, Sem.run_bind, run_underlying hd, Result.andThen_ok]; rfl
  · obtain ⟨_, q, rfl, hq⟩ := ha; subst hb
    rw [hq hp]
    simp only [Op.equalIn, Sem.run_bind, run_underlying hd, Result.andThen_ok]; rfl
  · obtain ⟨q, _, _, rfl, _, _, _, _, hq⟩ := ha; subst hb
    obtain ⟨_, _, _, rfl, _⟩ := hq hp
    simp only [Op.equalIn, Sem.run_bind, run_underlying hd, Result.andThen_ok]; rfl
  · subst ha; subst hb
    simp only [Op.equalIn, Sem.run_bind, run_underlying hd, Result.andThen_ok]; rfl
  · subst ha; subst hb
    simp only [Op.equalIn, Sem.run_bind, run_underlying hd, Result.andThen_ok]; rfl
  · obtain ⟨_, _, rfl, _⟩ := ha; subst hb
    simp only [Op.equalIn, Sem.run_bind, run_underlying hd, Result.andThen_ok]; rfl
  · subst ha; subst hb
    simp only [Op.equalIn, Sem.run_bind, run_underlying hd, Result.andThen_ok]; rfl
  · subst ha; subst hb
    simp only [Op.equalIn, Sem.run_bind, run_underlying hd, Result.andThen_ok]; rfl
  · obtain ⟨_, rfl⟩ := ha; subst hb
    simp only [Op.equalIn, Sem.run_bind, run_underlying hd, Result.andThen_ok]; rfl

/-- No number, no text, no struct. -/
def plainV : Value → Bool
  | .int .. | .float .. | .complex .. | .string _ | .agg _ | .nilIface => false
  | _ => true
theorem eq_plain {s u : SV} {a : Value} {d : Option TypeDesc} {p : Prop} {r : Bool} (ha : Rel ν s a) (h : sEq d s u = some (p, r)) : plainV a = true := by
  unfold sEq at h
  split at h <;> (try split at h) <;> first | (cases h; done) | skip
  all_goals simp only [Rel] at ha
  · subst ha; rfl
  · obtain ⟨_, rfl⟩ := ha; rfl
  · obtain ⟨_, _, _, _, rfl, _⟩ := ha; rfl
  · subst ha; rfl
  · subst ha; rfl
  · obtain ⟨_, q, rfl, hq⟩ := ha; rfl
  · obtain ⟨q, _, _, rfl, _⟩ := ha; rfl
  · subst ha; rfl
  · subst ha; rfl
  · obtain ⟨_, _, rfl, _⟩ := ha; rfl
  · subst ha; rfl
  · subst ha; rfl
  · obtain ⟨_, rfl⟩ := ha; rfl

theorem eqGuard_run {op : BinOp} {t : TypeId} {x y : Operand} {a b : Value} (h1 : a ≠ .nilIface) (h2 : ∀ c, a ≠ .agg c) : (eqGuard op t x y a b).run P w = .ok () w := by
  cases a <;> first
    | exact (h1 rfl).elim
    | exact (h2 _ rfl).elim
    | (cases op <;> rfl)

theorem binOp_eql {t : TypeId} {a b : Value} {r : Bool} (h : (Op.equal t a b).run P w = .ok r w) (h1 : plainV a = true) :
    (binOp .eql t a b).run P w = .ok (.bool r) w ∧ (binOp .neq t a b).run P w = .ok (.bool !r) w := by
  have e1 : binOp .eql t a b = (do pure (.bool (← Op.equal t a b))) := by cases a <;> first | (cases h1; done) | (cases b <;> rfl)
  have e2 : binOp .neq t a b = (do pure (.bool (!(← Op.equal t a b)))) := by cases a <;> first | (cases h1; done) | (cases b <;> rfl)
  rw [e1, e2]
  exact ⟨by simp only [Sem.run_bind, h, Result.andThen_ok]; rfl, by simp only [Sem.run_bind, h, Result.andThen_ok]; rfl⟩

theorem eqR_sound {t : TypeId} {s u : SV} {a b : Value} {neg : Bool} {e f : Operand} (ha : Rel ν s a) (hb : Rel ν u b)
    (hr : R1OK Q (sEqR neg H ν.nx (sEq (P.underlying t) s u))) :
    OpQ P ν w (do pure (.value (← (do eqGuard (if neg then .neq else .eql) t e f a b; binOp (if neg then .neq else .eql) t a b)))) fun s => Q s H ν.nx := by
  cases h : sEq (P.underlying t) s u with
  | none => simp [h, sEqR, R1OK] at hr
  | some pr =>
    obtain ⟨p, r⟩ := pr
    simp only [h, sEqR, R1OK] at hr
    obtain ⟨hp, hr⟩ := hr
    have hr := hr hp
    have k1 : ∀ w, (Op.equal t a b).run P w = .ok r w := fun w => eqIn_run (w := w) ha hb h hp 9999
    have k2 := eq_plain ha h
    have e1 := fun w => (binOp_eql (k1 w) k2).1
    have e2 := fun w => (binOp_eql (k1 w) k2).2
    have hg := fun w => eqGuard_run (P := P) (w := w) (op := if neg then .neq else .eql) (t := t) (x := e) (y := f) (a := a) (b := b) (by rintro rfl; cases k2) (by rintro c rfl; cases k2)
    cases neg with
    | true => simp only [if_true] at hr hg; exact .same (v := .bool !r) (by simp [hg, e2]) rel_v hr
    | false => simp only [Bool.false_eq_true, if_false] at hr hg; exact .same (v := .bool r) (by simp [hg, e1]) rel_v hr

/- structs -/
/-- The first cells of each, and the others. -/
theorem eqCells_split : ∀ (m : Nat) {ks : List Bool} {xs ys : List SV} {b : Bool}, eqCells ks xs ys = some b → ∃ b1 b2, eqCells (ks.take m) (xs.take m) (ys.take m) = some b1 ∧ eqCells (ks.drop m) (xs.drop m) (ys.drop m) = some b2 ∧ b = (b1 && b2)
  | 0, ks, xs, ys, b, h => ⟨true, b, by simp [eqCells], by simpa using h, by simp⟩
  | m + 1, ks, xs, ys, b, h => by
    unfold eqCells at h
    split at h
    · simp only [Option.some.injEq] at h; subst h; exact ⟨true, true, by simp [eqCells], by simp [eqCells], rfl⟩
    · split at h
      case isFalse => cases h
      rename_i hk
      simp only [Option.map_eq_some_iff] at h
      obtain ⟨r, h1, rfl⟩ := h
      obtain ⟨b1, b2, h2, h3, rfl⟩ := eqCells_split m h1
      exact ⟨_, b2, by simp only [List.take_succ_cons, eqCells, hk, if_true, h2, Option.map_some]; rfl, by simpa using h3, by rw [Bool.and_assoc]⟩
    · simp only [Option.map_eq_some_iff] at h
      obtain ⟨r, h1, rfl⟩ := h
      obtain ⟨b1, b2, h2, h3, rfl⟩ := eqCells_split m h1
      exact ⟨_, b2, by simp only [List.take_succ_cons, eqCells, h2, Option.map_some]; rfl, by simpa using h3, by rw [Bool.and_assoc]⟩
    · cases h
theorem eqCells_length : ∀ {ks : List Bool} {xs ys : List SV} {b : Bool}, eqCells ks xs ys = some b → xs.length = ks.length ∧ ys.length = ks.length
  | ks, xs, ys, b, h => by
    unfold eqCells at h
    split at h
    · exact ⟨rfl, rfl⟩
    · split at h
      case isFalse => cases h
      simp only [Option.map_eq_some_iff] at h
      obtain ⟨r, h1, rfl⟩ := h
      have := eqCells_length h1
      simp [this]
    · simp only [Option.map_eq_some_iff] at h
      obtain ⟨r, h1, rfl⟩ := h
      have := eqCells_length h1
      simp [this]
    · cases h

theorem part_run {T : TypeId} {n o : Nat} {b : Bool} {c : Array Value} (hn : tySize P T = some n) (hb : tyAgg P T = some b) (ho : o + n ≤ c.size) (h1 : b = false → n = 1) :
    (part T c o).run P w = .ok (if b then .agg ((c.toList.drop o).take n).toArray else (c.toList.getD o undef)) w := by
  cases b with
  | true =>
    simp only [part, Sem.run_bind, run_isAgg hb, Result.andThen_ok, if_true, run_sizeOf hn, Sem.run_pure]
    congr 2
    apply Array.ext'
    simp [List.extract, List.drop_take]
  | false =>
    have := h1 rfl
    have hlt : o < c.size := by omega
    simp [part, run_isAgg hb, hlt, List.getD]

/-- THE COMPARISON OF TWO STRUCTS OF NUMBERS AND BOOLS. -/
def EqRun (P : Program) (d : Nat) : Prop := ∀ (t : TypeId) (ks : List Bool), tyEq P d t = some ks → ∀ (e : Nat), d ≤ e → ∀ (xs ys : List SV) (cs ds : List Value) (b : Bool) (ν : Nm) (w : World), RelL ν xs cs → RelL ν ys ds → eqCells ks xs ys = some b →
  ∃ g, tyAgg P t = some g ∧ (g = false → ks.length = 1) ∧ (Op.equalIn e t (if g then .agg cs.toArray else cs.getD 0 undef) (if g then .agg ds.toArray else ds.getD 0 undef)).run P w = .ok b w

theorem eqCells_int {x y : List SV} {b : Bool} (h : eqCells [true] x y = some b) : ∃ k m n, x = [.v (.int k m)] ∧ y = [.v (.int k n)] ∧ b = decide (m = n) := by
  unfold eqCells at h
  split at h
  · rename_i heq; cases heq
  · rename_i ks k a l k' c m e
    cases e
    split at h
    case isFalse => cases h
    rename_i hk
    subst hk
    simp only [Option.map_eq_some_iff] at h
    obtain ⟨r, h1, rfl⟩ := h
    have := eqCells_length h1
    have e1 := List.eq_nil_of_length_eq_zero this.1
    have e2 := List.eq_nil_of_length_eq_zero this.2
    subst e1; subst e2
    simp only [eqCells, Option.some.injEq] at h1
    subst h1
    exact ⟨k, a, c, rfl, rfl, by simp⟩
  · rename_i e; cases e
  · cases h
theorem eqCells_bool {x y : List SV} {b : Bool} (h : eqCells [false] x y = some b) : ∃ m n, x = [.v (.bool m)] ∧ y = [.v (.bool n)] ∧ b = (m == n) := by
  unfold eqCells at h
  split at h
  · rename_i heq; cases heq
  · rename_i e; cases e
  · rename_i ks a l c m e
    cases e
    simp only [Option.map_eq_some_iff] at h
    obtain ⟨r, h1, rfl⟩ := h
    have := eqCells_length h1
    have e1 := List.eq_nil_of_length_eq_zero this.1
    have e2 := List.eq_nil_of_length_eq_zero this.2
    subst e1; subst e2
    simp only [eqCells, Option.some.injEq] at h1
    subst h1
    exact ⟨a, c, rfl, rfl, by simp⟩
  · cases h

def eqFields (P : Program) (d : Nat) (l : List Field) (o : List Bool) : Option (List Bool) := l.foldlM (fun (o : List Bool) (f : Field) => if f.offset = o.length ∧ f.name ≠ "_" then match tyEq P d f.type, tySize P f.type with
      | some n, some m => if n.length = m then some (o ++ n) else none
      | _, _ => none else none) o

theorem eqField_cons {d : Nat} {f : Field} {l : List Field} {o n : List Bool} (h : eqFields P d (f :: l) o = some n) : f.offset = o.length ∧ f.name ≠ "_" ∧ ∃ m, tyEq P d f.type = some m ∧ tySize P f.type = some m.length ∧ eqFields P d l (o ++ m) = some n := by
  simp only [eqFields, List.foldlM_cons] at h
  split at h
  · rename_i hc
    split at h
    · rename_i m m' h1 h2
      split at h
      · rename_i hm
        subst hm
        exact ⟨hc.1, hc.2, m, h1, h2, h⟩
      · cases h
    · cases h
  · cases h

theorem eqFields_le {d : Nat} : ∀ {l : List Field} {o n : List Bool}, eqFields P d l o = some n → ∃ q, n = o ++ q
  | [], o, n, h => by simp [eqFields] at h; exact ⟨[], by simp [h]⟩
  | f :: l, o, n, h => by
    obtain ⟨_, _, m, _, _, h3⟩ := eqField_cons h
    obtain ⟨q, rfl⟩ := eqFields_le h3
    exact ⟨m ++ q, by simp⟩

/-- How the fields are compared, one after the other. -/
def eqGo (e : Nat) (cs ds : Array Value) (f : Field) : Sem Bool := do Op.equalIn e f.type (← part f.type cs f.offset) (← part f.type ds f.offset)

theorem eq_fields {d e : Nat} (ih : EqRun P d) (hde : d ≤ e) {cs ds : Array Value} {xs ys : List SV} (hx : RelL ν xs cs.toList) (hy : RelL ν ys ds.toList) {ks : List Bool} {bb : Bool} (hks : eqCells ks xs ys = some bb)
    (body : Field → Option Bool × Unit → Sem (ForInStep (Option Bool × Unit))) (hbody : ∀ f w', f.name ≠ "_" → ∀ r, (eqGo e cs ds f).run P w' = .ok r w' → (body f (none, ())).run P w' = .ok (if r then .yield (none, ()) else .done (some false, ())) w') :
    ∀ (l : List Field) (o : List Bool) (b : Bool), eqFields P d l o = some ks → eqCells (ks.drop o.length) (xs.drop o.length) (ys.drop o.length) = some b →
      (forIn l (none, ()) body).run P w = .ok (if b then (none, ()) else (some false, ())) w
  | [], o, b, h, hb => by
    simp only [eqFields, List.foldlM_nil] at h
    cases h
    obtain ⟨l1, l2⟩ := eqCells_length hks
    rw [List.drop_length, ← l1, List.drop_length, l1, ← l2, List.drop_length] at hb
    simp only [eqCells, Option.some.injEq] at hb
    subst hb
    rfl
  | f :: l, o, b, h, hb => by
    obtain ⟨ho, hname, m, h1, h2, h3⟩ := eqField_cons h
    obtain ⟨b1, b2, k1, k2, rfl⟩ := eqCells_split m.length hb
    obtain ⟨q, hq⟩ := eqFields_le h3
    obtain ⟨l1, l2⟩ := eqCells_length hks
    have hxl := hx.length
    have hyl := hy.length
    simp only [Array.length_toList] at hxl hyl
    have hkl : ks.length = o.length + m.length + q.length := by rw [hq]; simp; omega
    have hm : (ks.drop o.length).take m.length = m := by rw [hq]; simp
    rw [hm] at k1
    obtain ⟨g, g1, g2, g3⟩ := ih f.type m h1 e hde _ _ _ _ b1 ν w ((hx.drop o.length).take m.length) ((hy.drop o.length).take m.length) k1
    have p1 := part_run (P := P) (w := w) (c := cs) (o := o.length) h2 g1 (by omega) g2
    have p2 := part_run (P := P) (w := w) (c := ds) (o := o.length) h2 g1 (by omega) g2
    have e1 : ∀ c : Array Value, (if g then Value.agg ((c.toList.drop o.length).take m.length).toArray else ((c.toList.drop o.length).take m.length).getD 0 undef) = (if g then .agg ((c.toList.drop o.length).take m.length).toArray else c.toList.getD o.length undef) := by
      intro c
      cases g with
      | true => rfl
      | false => have := g2 rfl; rw [this]; simp [List.getD, List.getElem?_drop, List.getElem?_take_of_lt]
    rw [e1, e1] at g3
    have hgo : (eqGo e cs ds f).run P w = .ok b1 w := by
      unfold eqGo
      rw [ho, Sem.run_bind, p1, Result.andThen_ok, Sem.run_bind, p2, Result.andThen_ok, g3]
    have ih2 := eq_fields ih hde hx hy hks body hbody l (o ++ m) b2 h3 (by simpa [List.drop_drop] using k2)
    rw [List.forIn_cons, Sem.run_bind, hbody f w hname b1 hgo, Result.andThen_ok]
    cases b1 with
    | true => simpa using ih2
    | false => simp

theorem eqRun : ∀ d, EqRun P d
  | 0 => fun t n h => by simp [tyEq] at h
  | d + 1 => by
    intro t ks h e he xs ys cs ds b ν w hx hy hb
    obtain ⟨e, rfl⟩ : ∃ e', e = e' + 1 := ⟨e - 1, by omega⟩
    unfold tyEq at h
    split at h
    · rename_i k hu
      simp only [Option.some.injEq] at h
      subst h
      refine ⟨false, by simp [tyAgg, hu, aggD], fun _ => rfl, ?_⟩
      obtain ⟨k, m, n, rfl, rfl, rfl⟩ := eqCells_int hb
      simp only [RelL, Rel] at hx hy
      obtain ⟨u, us, rfl, rfl, rfl⟩ := hx
      obtain ⟨v, vs, rfl, rfl, rfl⟩ := hy
      simp [Op.equalIn, run_underlying hu]
      rfl
    · rename_i hu
      simp only [Option.some.injEq] at h
      subst h
      refine ⟨false, by simp [tyAgg, hu, aggD], fun _ => rfl, ?_⟩
      obtain ⟨m, n, rfl, rfl, rfl⟩ := eqCells_bool hb
      simp only [RelL, Rel] at hx hy
      obtain ⟨u, us, rfl, rfl, rfl⟩ := hx
      obtain ⟨v, vs, rfl, rfl, rfl⟩ := hy
      simp [Op.equalIn, run_underlying hu]
    · rename_i fs hu
      split at h
      · cases h
      rename_i hst
      simp only [Bool.or_eq_true, not_or, Bool.not_eq_true] at hst
      refine ⟨true, by simp [tyAgg, hu, aggD], (fun h => by cases h), ?_⟩
      have key := fun body hbody => eq_fields (w := w) (eqRun d) (show d ≤ e by omega) (cs := cs.toArray) (ds := ds.toArray) (by simpa using hx) (by simpa using hy) hb body hbody fs.toList [] b h (by simpa using hb)
      simp only [if_true]
      have hk := key (fun f __s => if f.name = "_" then pure (ForInStep.yield (none, ()))
            else do
              let a ← part f.type cs.toArray f.offset
              let c ← part f.type ds.toArray f.offset
              let r ← Op.equalIn e f.type a c
              if r = false then pure (ForInStep.done (some false, ())) else pure (ForInStep.yield (none, ()))) (fun f w' hn r hr => by
        unfold eqGo at hr
        simp only [if_neg hn]
        have e1 : (do
              let a ← part f.type cs.toArray f.offset
              let c ← part f.type ds.toArray f.offset
              let r ← Op.equalIn e f.type a c
              if r = false then pure (ForInStep.done (some false, ())) else pure (ForInStep.yield (none, ())) : Sem (ForInStep (Option Bool × Unit))) = (do
              let r ← (do Op.equalIn e f.type (← part f.type cs.toArray f.offset) (← part f.type ds.toArray f.offset) : Sem Bool)
              if r = false then pure (ForInStep.done (some false, ())) else pure (ForInStep.yield (none, ()))) := by simp only [bind_assoc]
        rw [e1, Sem.run_bind, hr, Result.andThen_ok]
        cases r <;> rfl)
      simp [Op.equalIn, run_underlying hu, hst.1]
      rw [← Array.forIn_toList, hk]
      cases b <;> simp
    · cases h

theorem aggS_rel {u : SV} {ys : List SV} {b : Value} (h : aggS u = some ys) (hb : Rel ν u b) : ∃ c, b = .agg c ∧ RelL ν ys c.toList := by
  unfold aggS at h
  split at h
  · simp only [Option.some.injEq] at h; subst h
    simp only [Rel] at hb; exact hb
  · simp only [Option.some.injEq] at h; subst h
    simp only [Rel] at hb; exact ⟨_, hb, RelL.svs _⟩
  · cases h

theorem eqGuardType_of : ∀ {t : TypeId} {ks : List Bool}, tyEq P 8 t = some ks → tyAgg P t = some true → P.eqGuardType P.depth t = false := by
  intro t ks h ha
  unfold tyEq at h
  split at h
  · rename_i k hu; simp [tyAgg, hu, aggD] at ha
  · rename_i hu; simp [tyAgg, hu, aggD] at ha
  · split at h
    · cases h
    · rename_i hst
      simp only [Bool.or_eq_true, not_or, Bool.not_eq_true] at hst
      exact hst.2
  · cases h

theorem eqAgg_sound {t : TypeId} {s u : SV} {xs : List SV} {a b : Value} {neg : Bool} {e f : Operand} (hxs : aggS s = some xs) (ha : Rel ν s a) (hb : Rel ν u b)
    (hr : R1OK Q (sEqAgg neg (tyEqA P t) H ν.nx (some xs) (aggS u))) :
    OpQ P ν w (do pure (.value (← (do eqGuard (if neg then .neq else .eql) t e f a b; binOp (if neg then .neq else .eql) t a b)))) fun s => Q s H ν.nx := by
  unfold sEqAgg at hr
  split at hr
  case h_2 => exact hr.elim
  rename_i xs' ys e1 hys
  simp only [Option.some.injEq] at e1
  subst e1
  split at hr
  case h_2 => exact hr.elim
  rename_i ks hk
  split at hr
  case h_2 => exact hr.elim
  rename_i r hc
  unfold tyEqA at hk
  split at hk
  case h_2 => cases hk
  rename_i hg
  obtain ⟨c, rfl, hc1⟩ := aggS_rel hxs ha
  obtain ⟨d, rfl, hd1⟩ := aggS_rel hys hb
  have hrun := fun w => eqRun (P := P) 8 t ks hk 10000 (by omega) _ _ _ _ r ν w hc1 hd1 hc
  have heq : ∀ w, (Op.equal t (.agg c) (.agg d)).run P w = .ok r w := by
    intro w
    obtain ⟨g, g1, g2, g3⟩ := hrun w
    rw [hg] at g1
    simp only [Option.some.injEq] at g1
    subst g1
    show (Op.equalIn 10000 t (.agg c) (.agg d)).run P w = _
    simpa using g3
  have hgt := eqGuardType_of hk hg
  have hgd : ∀ op, ∀ w, (eqGuard op t e f (.agg c) (.agg d)).run P w = .ok () w := by
    intro op w
    cases op <;> simp [eqGuard, hgt]
  have e1 : binOp .eql t (.agg c) (.agg d) = (do pure (.bool (← Op.equal t (.agg c) (.agg d)))) := rfl
  have e2 : binOp .neq t (.agg c) (.agg d) = (do pure (.bool (!(← Op.equal t (.agg c) (.agg d))))) := rfl
  cases neg with
  | true => exact .same (v := .bool !r) (by intro w; simp [hgd, e2, heq]) rel_v hr
  | false => exact .same (v := .bool r) (by intro w; simp [hgd, e1, heq]) rel_v hr

/-- Two arrays of bools. -/
theorem rowsB {xs : List (List SV)} {ys : List Value} (h : RelLL ν xs ys) (hb : ∀ x ∈ xs, isB x) : ys = xs.map fun x => .bool (toB x) := by
  induction xs generalizing ys with
  | nil => simpa [RelLL] using h
  | cons x xs ih =>
    simp only [RelLL] at h
    obtain ⟨y, ys', rfl, h1, h2⟩ := h
    obtain ⟨b, rfl⟩ := hb x (by simp)
    simp only [RelL, Rel] at h1
    obtain ⟨u, us, rfl, rfl, rfl⟩ := h1
    rw [ih h2 fun x hx => hb x (by simp [hx])]
    rfl
theorem eqItemsB {e : TypeId} (he : P.underlying e = some .bool) (d : Nat) (as bs : List Bool) : ∀ (k : Nat) (w : World), k ≤ as.length → as.length = bs.length →
    (Op.eqItems (d + 1) e 1 (as.map Value.bool).toArray (bs.map Value.bool).toArray (List.range' k (as.length - k))).run P w = .ok (decide (as.drop k = bs.drop k)) w := by
  intro k w hk hl
  induction h : as.length - k generalizing k with
  | zero =>
    have e1 : as.drop k = [] := List.drop_eq_nil_of_le (by omega)
    have e2 : bs.drop k = [] := List.drop_eq_nil_of_le (by omega)
    simp [Op.eqItems, e1, e2]
  | succ m ih =>
    have hk1 : k < as.length := by omega
    have hk2 : k < bs.length := by omega
    have p1 : (part e (as.map Value.bool).toArray (k * 1)).run P w = .ok (.bool as[k]) w := by
      simp [part, isAgg, run_underlying he, hk1]
    have p2 : (part e (bs.map Value.bool).toArray (k * 1)).run P w = .ok (.bool bs[k]) w := by
      simp [part, isAgg, run_underlying he, hk2]
    have p3 : (Op.equalIn (d + 1) e (.bool as[k]) (.bool bs[k])).run P w = .ok (as[k] == bs[k]) w := by
      simp [Op.equalIn, run_underlying he]
    rw [List.range'_succ]
    simp only [Op.eqItems, Sem.run_bind, p1, p2, p3, Result.andThen_ok]
    have hih := ih (k + 1) (by omega) (by omega)
    rw [List.drop_eq_getElem_cons hk1, List.drop_eq_getElem_cons hk2]
    by_cases hab : as[k] = bs[k]
    · rw [show (as[k] == bs[k]) = true by simpa using hab]
      simp only [Bool.not_true, Bool.false_eq_true, if_false, hih]
      congr 1
      rw [decide_eq_decide, hab]
      exact ⟨fun h => by rw [h], fun h => (List.cons.inj h).2⟩
    · rw [show (as[k] == bs[k]) = false by simpa using hab]
      simp only [Bool.not_false, if_true, Sem.run_pure]
      rw [decide_eq_false fun h => hab (List.cons.inj h).1]
theorem eqArr_sound {t : TypeId} {sz sz' : Nat} {xs ys : List (List SV)} {a b : Value} {neg : Bool} {e f : Operand} (ha : Rel ν (.arr sz xs) a) (hb : Rel ν (.arr sz' ys) b)
    (hr : R1OK Q (sEqArr neg (tyEqArr P t) xs ys H ν.nx)) :
    OpQ P ν w (do pure (.value (← (do eqGuard (if neg then .neq else .eql) t e f a b; binOp (if neg then .neq else .eql) t a b)))) fun s => Q s H ν.nx := by
  unfold sEqArr at hr
  split at hr
  case h_2 => exact hr.elim
  rename_i n hq
  obtain ⟨hp, hr'⟩ := hr
  have hr := hr' hp
  clear hr'
  obtain ⟨l1, l2, b1, b2⟩ := hp
  unfold tyEqArr at hq
  split at hq
  case h_2 => cases hq
  rename_i n' el hu
  split at hq
  case h_2 => cases hq
  rename_i he hs
  split at hq
  case isTrue => cases hq
  rename_i hgt
  simp only [Option.some.injEq] at hq
  subst hq
  simp only [Bool.not_eq_true] at hgt
  simp only [Rel] at ha hb
  obtain ⟨c, rfl, -, hc, -⟩ := ha
  obtain ⟨d, rfl, -, hd, -⟩ := hb
  have hc' := rowsB hc b1
  have hd' := rowsB hd b2
  obtain ⟨c, rfl⟩ : ∃ l, c = List.toArray l := ⟨c.toList, rfl⟩
  obtain ⟨d, rfl⟩ : ∃ l, d = List.toArray l := ⟨d.toList, rfl⟩
  simp only at hc' hd'
  subst hc' hd'
  simp only [tySize, Option.map_eq_some_iff] at hs
  obtain ⟨i, hi, hsz⟩ := hs
  have heq : ∀ w, (Op.equal t (.agg (xs.map fun x => Value.bool (toB x)).toArray) (.agg (ys.map fun x => Value.bool (toB x)).toArray)).run P w = .ok (decide (xs.map toB = ys.map toB)) w := by
    intro w
    show (Op.equalIn (9999 + 1) t _ _).run P w = _
    rw [Go.run_equalIn_array w 9999 _ _ hu hi, show P.cellsOf el = 1 by simp [Program.cellsOf, hi, hsz], List.range_eq_range']
    have := eqItemsB (P := P) he 9998 (xs.map toB) (ys.map toB) 0 w (Nat.zero_le _) (by simp [l1, l2])
    simp only [List.map_map, List.length_map, Nat.sub_zero, List.drop_zero, l1] at this
    exact this
  have hgd : ∀ op, ∀ w, (eqGuard op t e f (.agg (xs.map fun x => Value.bool (toB x)).toArray) (.agg (ys.map fun x => Value.bool (toB x)).toArray)).run P w = .ok () w := by
    intro op w
    cases op <;> simp [eqGuard, hgt]
  have e1 : ∀ c d : Array Value, binOp .eql t (.agg c) (.agg d) = (do pure (.bool (← Op.equal t (.agg c) (.agg d)))) := fun _ _ => rfl
  have e2 : ∀ c d : Array Value, binOp .neq t (.agg c) (.agg d) = (do pure (.bool (!(← Op.equal t (.agg c) (.agg d))))) := fun _ _ => rfl
  cases neg with
  | true => exact .same (v := .bool !decide (xs.map toB = ys.map toB)) (by intro w; simp only [if_true, Sem.run_bind, hgd, Result.andThen_ok, e2, heq]; rfl) rel_v hr
  | false => exact .same (v := .bool (decide (xs.map toB = ys.map toB))) (by intro w; simp only [Bool.false_eq_true, if_false, Sem.run_bind, hgd, Result.andThen_ok, e1, heq]; rfl) rel_v hr

theorem bin_sound {op : BinOp} {t : TypeId} {s u : Option SV} {a b : Value} {e f : Operand} (hs : ∀ q, s = some q → Rel ν q a) (hu : ∀ q, u = some q → Rel ν q b)
    (hr : R1OK Q (sBin (tyEqA P t) (P.underlying t) (tyEqArr P t) op H ν.nx s u)) :
    OpQ P ν w (do pure (.value (← (do eqGuard op t e f a b; binOp op t a b)))) fun s => Q s H ν.nx := by
  unfold sBin at hr
  split at hr
  · rename_i k i k' i'
    have h1 := hs _ rfl
    have h2 := hu _ rfl
    simp only [Rel] at h1 h2
    subst h1; subst h2
    obtain ⟨v, h3, h4⟩ := int_run (P := P) (t := t) hr
    have hg := fun w => eqGuard_run (P := P) (w := w) (op := op) (t := t) (x := e) (y := f) (a := .int k i) (b := .int k' i') (by simp) (by simp)
    exact .same (v := v) (by simp [hg, h3]) rel_v h4
  · rename_i p q
    have h1 := hs _ rfl
    have h2 := hu _ rfl
    simp only [Rel] at h1 h2
    subst h1; subst h2
    have hg := fun w => eqGuard_run (P := P) (w := w) (op := op) (t := t) (x := e) (y := f) (a := .string p) (b := .string q) (by simp) (by simp)
    split at hr
    · exact .same (v := .bool (p.toList == q.toList)) (fun w => by simp only [Sem.run_bind, hg, Result.andThen_ok]; rfl) rel_v hr
    · exact .same (v := .bool !(p.toList == q.toList)) (fun w => by simp only [Sem.run_bind, hg, Result.andThen_ok]; rfl) rel_v hr
    · exact hr.elim
  · split at hr
    · exact eqAgg_sound (neg := false) rfl (hs _ rfl) (hu _ rfl) hr
    · exact eqAgg_sound (neg := true) rfl (hs _ rfl) (hu _ rfl) hr
    · exact hr.elim
  · split at hr
    · exact eqAgg_sound (neg := false) rfl (hs _ rfl) (hu _ rfl) hr
    · exact eqAgg_sound (neg := true) rfl (hs _ rfl) (hu _ rfl) hr
    · exact hr.elim
  · split at hr
    · exact eqArr_sound (neg := false) (hs _ rfl) (hu _ rfl) hr
    · exact eqArr_sound (neg := true) (hs _ rfl) (hu _ rfl) hr
    · exact hr.elim
  · split at hr
    · exact eqR_sound (neg := false) (hs _ rfl) (hu _ rfl) hr
    · exact eqR_sound (neg := true) (hs _ rfl) (hu _ rfl) hr
    · exact hr.elim
  · exact hr.elim

theorem un_sound {op : UnOp} {s : Option SV} {a : Value} (hs : ∀ q, s = some q → Rel ν q a) (hr : R1OK Q (sUn op H ν.nx s)) : OpQ P ν w (do pure (.value (← Op.unary op a))) fun s => Q s H ν.nx := by
  unfold sUn at hr
  split at hr
  · have h1 := hs _ rfl
    simp only [Rel] at h1; subst h1
    split at hr
    · exact .same (by simp [Op.unary]) rel_v hr
    · exact hr.elim
  · have h1 := hs _ rfl
    simp only [Rel] at h1; subst h1
    split at hr
    · exact .same (by simp [Op.unary, Op.intArith]; rfl) (by simp [Rel]) hr
    · exact .same (by simp [Op.unary, Op.intBits]; rfl) rel_v hr
    · exact hr.elim
  · exact hr.elim

theorem rowInts_rel : ∀ {xs : List (List SV)} {l : List Int} {ys : List Value}, rowInts xs = some l → RelLL ν xs ys → ys = l.map (Value.int .u8)
  | [], l, ys, h, hr => by
    simp only [rowInts, Option.some.injEq] at h
    simp only [RelLL] at hr
    subst h; subst hr; rfl
  | x :: xs, l, ys, h, hr => by
    unfold rowInts at h
    split at h
    · rename_i e; cases e
    · rename_i n xs' e
      simp only [List.cons.injEq] at e
      obtain ⟨rfl, rfl⟩ := e
      split at h
      · rename_i l' hl
        simp only [Option.some.injEq] at h
        subst h
        simp only [RelLL, RelL, Rel] at hr
        obtain ⟨y, ys', rfl, ⟨y0, ys0, rfl, rfl, rfl⟩, h4⟩ := hr
        rw [rowInts_rel hl h4]; rfl
      · cases h
    · cases h
theorem bytesFor {F : Value → ByteArray → Sem (ForInStep ByteArray)} (hF : ∀ n r, F (.int .u8 n) r = pure (ForInStep.yield (r.push (UInt8.ofNat n.toNat)))) (w : World) : ∀ (l : List Int) (s : ByteArray), (forIn (m := Sem) (l.map (Value.int .u8)) s F).run P w = .ok (l.foldl (fun s n => s.push (UInt8.ofNat n.toNat)) s) w
  | [], s => by simp
  | n :: l, s => by
    simp only [List.map_cons, List.forIn_cons, hF, Sem.run_bind, Sem.run_pure, Result.andThen_ok, List.foldl_cons]
    exact bytesFor hF w l _
theorem conv_sound {t u : TypeId} {s : Option SV} {a : Value} (hH : Holds x ν H w) (hsrc : ∃ d, P.underlying t = some d) (hs : ∀ q, s = some q → Rel ν q a) (hr : R1OK Q (sConv (isU8 P t) (P.underlying u) H ν.nx s)) :
    OpQ P ν w (do pure (.value (← convert t u a))) fun s => Q s H ν.nx := by
  obtain ⟨d0, hd0⟩ := hsrc
  unfold sConv at hr
  split at hr
  · have h1 := hs _ rfl
    simp only [Rel] at h1; subst h1
    split at hr
    · rename_i hd
      refine .same (v := .int _ _) ?_ rel_v hr
      simp only [convert, Sem.run_bind, run_underlying hd0, run_underlying hd, Result.andThen_ok]
      cases d0 <;> simp [Conv.intToInt]
    · exact hr.elim
  · rename_i sz xs
    have h1 := hs _ rfl
    simp only [Rel] at h1
    obtain ⟨p, cap, ys, rfl, hle, hlen, hrel, hone, hne⟩ := h1
    split at hr
    case h_2 => exact hr.elim
    rename_i l hd hu8 hl
    split at hr
    case isFalse => exact hr.elim
    rename_i hsz
    subst hsz
    have hys := rowInts_rel hl hrel
    have hyl : ys.length = xs.length := by rw [hrel.length hlen, Nat.mul_one]
    unfold isU8 at hu8
    split at hu8
    case h_2 => cases hu8
    rename_i e he
    split at hu8
    case h_2 => cases hu8
    rename_i hk
    refine ⟨.string (strOf l), _, fun w' ex => ?_, rel_v, hr⟩
    have hrun : (Conv.bytesToString (.slice p xs.length cap)).run P w' = .ok (.string (strOf l)) w' := by
      cases p with
      | none =>
        have h0 : xs.length = 0 := by
          by_cases h0 : xs.length = 0
          · exact h0
          · obtain ⟨b, o, c, h, _⟩ := hne h0
            cases h
        have : l = [] := by
          rw [h0] at hyl
          rw [List.eq_nil_of_length_eq_zero hyl] at hys
          cases l with
          | nil => rfl
          | cons => simp at hys
        subst this
        simp [Conv.bytesToString, strOf]
      | some p =>
        have hcells : ∀ j v, ys[j]? = some v → w'.cell? (p.add j) = some v := by
          intro j v hj
          have hlt : j < ys.length := (List.getElem?_eq_some_iff.1 hj).1
          obtain ⟨b, o, c, hp, hro, hc⟩ := hne (by omega)
          simp only [Option.some.injEq] at hp
          subst hp
          obtain ⟨T, fz, hb⟩ := hH.ro b c hro
          have hbl : b < w.heap.size := (Array.getElem?_eq_some_iff.1 hb).1
          rw [add_eq, cell?_cells (w := w') (by rw [ex.block b hbl]; exact hb), hc j hlt]
          exact hj
        have hload := run_loadCells_list (P := P) w' p ys hcells
        rw [hyl] at hload
        simp only [Conv.bytesToString, Sem.run_bind, hload, Result.andThen_ok]
        rw [List.forIn_toArray, hys, bytesFor (fun n r => rfl)]
        rfl
    simp only [convert, Sem.run_bind, run_underlying he, run_underlying hd, run_underlying hk, Result.andThen_ok, hrun]
    rfl
  · exact hr.elim

theorem makeFunc_sound {fn : Fn} {s u : Option (List SV)} {a b : Array Value} (hs : ∀ q, s = some q → RelL ν q a.toList) (hu : ∀ q, u = some q → RelL ν q b.toList)
    (hr : R1OK Q (sMakeFunc fn H ν.nx s u)) : OpQ P ν w (do pure (.value (← Instr.makeFunc fn a b))) fun s => Q s H ν.nx := by
  unfold sMakeFunc at hr
  split at hr
  · exact .same (v := .func fn a b) (by simp [Instr.makeFunc]) (by exact ⟨a, b, rfl, hs _ rfl, hu _ rfl⟩) hr
  · exact hr.elim

theorem tyField_eq {t : TypeId} {i o n : Nat} {b : Bool} (h : tyField P t i = some (o, n, b)) : ∃ fs f, P.underlying t = some (.struct fs) ∧ fs[i]? = some f ∧ f.offset = o ∧ tySize P f.type = some n ∧ tyAgg P f.type = some b := by
  unfold tyField at h
  split at h
  · rename_i fs hu
    split at h
    · rename_i f hf
      split at h
      · rename_i n' b' hn hb
        simp only [Option.some.injEq, Prod.mk.injEq] at h
        obtain ⟨rfl, rfl, rfl⟩ := h
        exact ⟨fs, f, hu, hf, rfl, hn, hb⟩
      · exact absurd h (by simp)
    · exact absurd h (by simp)
  · exact absurd h (by simp)

theorem fieldAddr_sound {t : TypeId} {i : Nat} {s : Option SV} {a : Value} (hs : ∀ q, s = some q → Rel ν q a) (hr : R1OK Q (sFieldAddr (tyField P t i) H ν.nx s)) :
    OpQ P ν w (do pure (.value (← Instr.fieldAt t a i))) fun s => Q s H ν.nx := by
  unfold sFieldAddr at hr
  split at hr
  · have h1 := hs _ rfl
    simp only [Rel] at h1; obtain ⟨hid, rfl⟩ := h1
    split at hr
    · rename_i o n b hf
      split at hr
      · exact hr.elim
      · rename_i hn0
        obtain ⟨fs, f, hu, hfi, rfl, hn, hb⟩ := tyField_eq hf
        refine .same ?_ (by exact ⟨hid, rfl⟩) hr
        simp [Instr.fieldAt, run_underlying hu, hfi, Instr.sureAddr, fieldPlace, run_sizeOf hn, hn0, add_eq]
        omega
    · exact hr.elim
  · have h1 := hs _ rfl
    simp only [Rel] at h1; obtain ⟨b, o', c, ys, rfl, h2, h3, h4⟩ := h1
    split at hr
    · rename_i o n b' hf
      split at hr
      · exact hr.elim
      · rename_i hn0
        obtain ⟨fs, f, hu, hfi, rfl, hn, hb⟩ := tyField_eq hf
        refine .same ?_ (by exact ⟨b, o', c, ys, rfl, h2, h3, h4⟩) hr
        simp [Instr.fieldAt, run_underlying hu, hfi, Instr.sureAddr, fieldPlace, run_sizeOf hn, hn0, add_eq]
        omega
    · exact hr.elim
  · exact hr.elim

theorem part_sound {T : TypeId} {n o : Nat} {b : Bool} {c : Array Value} {cs l : List SV} {s : SV} (hn : tySize P T = some n) (hb : tyAgg P T = some b) (hc : RelL ν cs c.toList) (hl : cut cs o n = some l) (ha : aggOf b l = some s) :
    ∃ v, (∀ w, (part T c o).run P w = .ok v w) ∧ Rel ν s v := by
  obtain ⟨h1, h2⟩ := hc.cut _ _ hl
  rcases aggOf_rel ha h2 with ⟨rfl, h3⟩ | ⟨rfl, y, h4, h3⟩
  · refine ⟨_, fun w => ?_, h3⟩
    simp only [part, Sem.run_bind, run_isAgg hb, Result.andThen_ok, if_true, run_sizeOf hn, Sem.run_pure]
    congr 2
    apply Array.ext'
    simp [List.extract, List.drop_take]
  · refine ⟨y, ?_, h3⟩
    have hy : c[o]? = some y := by
      have : ((c.toList.drop o).take n)[0]? = some y := by rw [h4]; rfl
      have hn0 : 0 < n := by
        rcases Nat.eq_zero_or_pos n with rfl | h
        · simp at this
        · exact h
      rw [List.getElem?_take_of_lt hn0, List.getElem?_drop] at this
      simpa using this
    intro w
    simp [part, run_isAgg hb, hy]

theorem field_sound {t : TypeId} {i : Nat} {s : Option SV} {a : Value} (hs : ∀ q, s = some q → Rel ν q a) (hr : R1OK Q (sField (tyField P t i) H ν.nx s)) :
    OpQ P ν w (do pure (.value (← Instr.field t a i))) fun s => Q s H ν.nx := by
  have main : ∀ (c : Array Value) (cs : List SV), RelL ν cs c.toList → a = .agg c → R1OK Q (match tyField P t i with
      | some (o, n, b) => match cut cs o n with
        | some l => rOf (aggOf b l) H ν.nx
        | none => .fail "field cells"
      | none => .fail "field") → OpQ P ν w (do pure (.value (← Instr.field t a i))) fun s => Q s H ν.nx := by
    rintro c cs hc rfl hr
    split at hr
    · rename_i o n b hf
      split at hr
      · rename_i l hl
        obtain ⟨fs, f, hu, hfi, rfl, hn, hb⟩ := tyField_eq hf
        obtain ⟨q, hq, h⟩ := rOf_ok hr
        obtain ⟨v, h1, h2⟩ := part_sound (P := P) hn hb hc hl hq
        exact .same (by simp [Instr.field, run_underlying hu, hfi, asAgg, h1]) h2 h
      · exact hr.elim
    · exact hr.elim
  unfold sField at hr
  split at hr
  · have h1 := hs _ rfl
    simp only [Rel] at h1; obtain ⟨c, rfl, hc⟩ := h1
    exact main c _ hc rfl hr
  · have h1 := hs _ rfl
    simp only [Rel] at h1; subst h1
    exact main _ _ (RelL.svs _) rfl hr
  · exact hr.elim

theorem elem_size {d : Option TypeDesc} {n : Nat} {e : TypeId} (he : elemT d = some e) (h : obind (tySize P) (elemT d) = some n) : tySize P e = some n := by
  rw [he] at h; exact h

theorem elem_seg {ys : List Value} {c : Array Value} {o a n : Nat} (hseg : ∀ j, j < ys.length → c[o + j]? = ys[j]?) (h : a + n ≤ ys.length) : ∀ j, j < ((ys.drop a).take n).length → c[o + a + j]? = ((ys.drop a).take n)[j]? := by
  intro j hj
  have hj' : j < n := by simp at hj; omega
  rw [List.getElem?_take_of_lt hj', List.getElem?_drop, Nat.add_assoc, hseg _ (by omega)]
theorem RelL.getD {ν : Nm} {x : List SV} {ys : List Value} (h : RelL ν x ys) {i : Nat} (hi : i < x.length) : ∃ y, ys[i]? = some y ∧ Rel ν (x.getD i undefS) y := by
  have : x[i]? = some (x.getD i undefS) := by simp [List.getD, hi]
  exact h.get i this
theorem indexAddr_sound {t : TypeId} {s u : Option SV} {a b : Value} (hs : ∀ q, s = some q → Rel ν q a) (hu : ∀ q, u = some q → Rel ν q b)
    (hr : R1OK Q (sIndexAddr (P.underlying t) (obind (tySize P) (elemT (P.underlying t))) H ν.nx s u)) : OpQ P ν w (do pure (.value (← Instr.indexAt t a b))) fun s => Q s H ν.nx := by
  unfold sIndexAddr at hr
  split at hr
  · rename_i id sz off len cap k i
    have h1 := hs _ rfl
    have h2 := hu _ rfl
    simp only [Rel] at h1 h2
    obtain ⟨hid, p, rfl, hp⟩ := h1
    subst h2
    split at hr
    · rename_i e n hd hn
      split at hr
      · rename_i hsz
        subst hsz
        obtain ⟨⟨i1, i2, i3⟩, hr⟩ := hr
        have hr := hr ⟨i1, i2, i3⟩
        rw [hp (by omega)]
        have hn' := elem_size (P := P) (e := e) (by rw [hd]; rfl) hn
        refine .same ?_ (by exact ⟨hid, rfl⟩) hr
        simp [Instr.indexAt, asIntOf, run_underlying hd, run_sizeOf hn', i1, i2, add_eq]
        rw [Nat.add_mul]
      · exact hr.elim
    · exact hr.elim
  · rename_i id sz k i
    have h1 := hs _ rfl
    have h2 := hu _ rfl
    simp only [Rel] at h1 h2
    obtain ⟨hid, rfl⟩ := h1
    subst h2
    split at hr
    · rename_i len e n hd hn
      obtain ⟨⟨i1, i2⟩, hr⟩ := hr
      have hr := hr ⟨i1, i2⟩
      have hn' := elem_size (P := P) (e := e) (by rw [hd]; rfl) hn
      refine .same ?_ (by exact ⟨hid, rfl⟩) hr
      simp [Instr.indexAt, asIntOf, run_underlying hd, run_sizeOf hn', i1, i2, add_eq, Instr.sureAddr]
    · exact hr.elim
  · rename_i sz xs k i
    have h1 := hs _ rfl
    have h2 := hu _ rfl
    simp only [Rel] at h1 h2
    obtain ⟨p, cap, ys, rfl, hcap, hrows, hrel, hones, hp⟩ := h1
    subst h2
    split at hr
    · rename_i e n hd hn
      split at hr
      · rename_i hsz
        subst hsz
        obtain ⟨⟨i1, i2⟩, hr⟩ := hr
        have hr := hr ⟨i1, i2⟩
        obtain ⟨bk, o, c, rfl, hro, hseg⟩ := hp (by omega)
        have hn' := elem_size (P := P) (e := e) (by rw [hd]; rfl) hn
        have hlt : i.toNat < xs.length := by omega
        have hyl := hrel.length (show Rows n xs from hrows)
        have hle : i.toNat * n + n ≤ ys.length := by
          rw [hyl, ← Nat.succ_mul]; exact Nat.mul_le_mul_right _ hlt
        refine .same (v := .pointer (some ⟨bk, o + i.toNat * n + 0, none⟩)) ?_ (by exact ⟨bk, o + i.toNat * n, c, _, rfl, hro, hrel.elem (show Rows n xs from hrows) hlt, elem_seg hseg hle⟩) hr
        simp [Instr.indexAt, asIntOf, run_underlying hd, run_sizeOf hn', i1, i2, add_eq]
      · exact hr.elim
    · exact hr.elim
  · rename_i xr r k i
    have h1 := hs _ rfl
    have h2 := hu _ rfl
    simp only [Rel] at h1 h2
    obtain ⟨bk, o, c, ys, rfl, hro, hrel, hseg⟩ := h1
    subst h2
    split at hr
    · rename_i len e n hd hn
      split at hr
      · rename_i hsz
        subst hsz
        obtain ⟨⟨i1, i2, i3⟩, hr⟩ := hr
        have hr := hr ⟨i1, i2, i3⟩
        have hn' := elem_size (P := P) (e := e) (by rw [hd]; rfl) hn
        have hlt : r + i.toNat < xr.length := by omega
        obtain ⟨y, q1, q2⟩ := hrel.getD hlt
        refine .same (v := .pointer (some ⟨bk, o + (r + i.toNat) + 0, none⟩)) ?_ (by
          refine ⟨bk, o + (r + i.toNat), c, [y], rfl, hro, ⟨y, [], rfl, q2, rfl⟩, fun j hj => ?_⟩
          have : j = 0 := by simpa using hj
          subst this
          have h9 : r + i.toNat < ys.length := (List.getElem?_eq_some_iff.1 q1).1
          rw [Nat.add_zero, hseg _ h9, q1]; rfl) hr
        simp [Instr.indexAt, asIntOf, run_underlying hd, run_sizeOf hn', i1, i2, add_eq, Instr.sureAddr]
        omega
      · exact hr.elim
    · exact hr.elim
  · exact hr.elim

theorem index_sound {t : TypeId} {s u : Option SV} {a b : Value} (hs : ∀ q, s = some q → Rel ν q a) (hu : ∀ q, u = some q → Rel ν q b)
    (hr : R1OK Q (sIndex (P.underlying t) (obind (tySize P) (elemT (P.underlying t))) (obind (tyAgg P) (elemT (P.underlying t))) H ν.nx s u)) : OpQ P ν w (do pure (.value (← Instr.index t a b))) fun s => Q s H ν.nx := by
  unfold sIndex at hr
  split at hr
  · rename_i cs k i
    have h1 := hs _ rfl
    have h2 := hu _ rfl
    simp only [Rel] at h1 h2
    obtain ⟨c, rfl, hc⟩ := h1
    subst h2
    split at hr
    · rename_i len e n b hd hn hb
      split at hr
      · rename_i l hl
        obtain ⟨⟨i1, i2⟩, hr⟩ := hr
        have hr := hr ⟨i1, i2⟩
        have hn' := elem_size (P := P) (e := e) (by rw [hd]; rfl) hn
        have hb' : tyAgg P e = some b := by rw [hd] at hb; exact hb
        obtain ⟨q, hq, h⟩ := rOf_ok hr
        obtain ⟨v, h1, h2⟩ := part_sound (P := P) hn' hb' hc hl hq
        exact .same (by simp [Instr.index, asIntOf, run_underlying hd, run_sizeOf hn', i1, i2, h1]) h2 h
      · exact hr.elim
    · exact hr.elim
  · rename_i s xs k i
    have h1 := hs _ rfl
    have h2 := hu _ rfl
    simp only [Rel] at h1 h2
    obtain ⟨c, rfl, hrows, hrel, hones⟩ := h1
    subst h2
    split at hr
    · rename_i len e n b hd hn hb
      split at hr
      case isFalse => exact hr.elim
      rename_i hsz
      subst hsz
      obtain ⟨⟨i1, i2, i3⟩, hr⟩ := hr
      have hr := hr ⟨i1, i2, i3⟩
      have hn' := elem_size (P := P) (e := e) (by rw [hd]; rfl) hn
      have hb' : tyAgg P e = some b := by rw [hd] at hb; exact hb
      have hlt : i.toNat < xs.length := by omega
      obtain ⟨q, hq, h⟩ := rOf_ok hr
      have hrows : Rows n xs := hrows
      have hel := hrel.elem hrows hlt
      have hle : i.toNat * n + n ≤ c.size := by
        have := hrel.length hrows
        simp only [Array.length_toList] at this
        rw [this, ← Nat.succ_mul]; exact Nat.mul_le_mul_right _ hlt
      rcases aggOf_rel hq hel with ⟨rfl, h3⟩ | ⟨rfl, y, h4, h3⟩
      · have hp := fun w => part_run (P := P) (w := w) (c := c) (o := i.toNat * n) hn' hb' hle (by simp)
        refine .same (v := .agg _) ?_ (h3.grows (.ofFree ν)) h
        intro w
        simp only [if_true] at hp
        simp [Instr.index, asIntOf, run_underlying hd, run_sizeOf hn', i1, i2, hp]
      · have hn1 : n = 1 := by
          have := congrArg List.length h4
          simp at this; omega
        have hp := fun w => part_run (P := P) (w := w) (c := c) (o := i.toNat * n) hn' hb' hle (fun _ => hn1)
        have hy : c.toList.getD (i.toNat * n) undef = y := by
          subst hn1
          have h5 := congrArg (fun l => l[0]?) h4
          simp only [List.getElem?_take_of_lt Nat.zero_lt_one, List.getElem?_drop, Nat.add_zero, List.getElem?_cons_zero] at h5
          simp only [List.getD, h5, Option.getD_some]
        refine .same (v := y) ?_ (h3.grows (.ofFree ν)) h
        intro w
        simp only [Bool.false_eq_true, if_false, hy] at hp
        simp [Instr.index, asIntOf, run_underlying hd, run_sizeOf hn', i1, i2, hp]
    · exact hr.elim
  · rename_i s k i
    have h1 := hs _ rfl
    have h2 := hu _ rfl
    simp only [Rel] at h1 h2
    subst h1 h2
    split at hr
    · rename_i hd
      obtain ⟨⟨i1, i2⟩, hr⟩ := hr
      have hr := hr ⟨i1, i2⟩
      have hlt : i.toNat < s.size := by omega
      have hg : s[i.toNat]? = some (s.data.toList.getD i.toNat 0) := by
        rw [getElem?_pos s i.toNat hlt]
        have : i.toNat < s.data.toList.length := by simpa using hlt
        rw [List.getD, List.getElem?_eq_getElem this]
        simp [ByteArray.getElem_eq_getElem_data]
      exact .same (v := .int .u8 (s.data.toList.getD i.toNat 0).toNat) (by simp [Instr.index, asIntOf, run_underlying hd, i1, hg]) rel_v hr
    · exact hr.elim
  · exact hr.elim

theorem extract_sound {i : Nat} {s : Option SV} {a : Value} (hs : ∀ q, s = some q → Rel ν q a) (hr : R1OK Q (sExtract i H ν.nx s)) : OpQ P ν w (do pure (.value (← Instr.extract a i))) fun s => Q s H ν.nx := by
  unfold sExtract at hr
  split at hr
  · have h1 := hs _ rfl
    simp only [Rel] at h1; obtain ⟨c, rfl, hc⟩ := h1
    obtain ⟨q, hq, h⟩ := rOf_ok hr
    obtain ⟨z, h2, h3⟩ := hc.get i hq
    have : c[i]? = some z := by simpa using h2
    exact .same (by simp [Instr.extract, this]) h3 h
  · have h1 := hs _ rfl
    simp only [Rel] at h1; subst h1
    obtain ⟨q, hq, h⟩ := rOf_ok hr
    simp only [Option.map_eq_some_iff] at hq
    obtain ⟨z, h2, rfl⟩ := hq
    exact .same (by simp [Instr.extract, h2]) rel_v h
  · exact hr.elim

theorem len_sound {t ty : TypeId} {s : Option SV} {a : Value} (hs : ∀ q, s = some q → Rel ν q a) (hr : R1OK Q (sLen (P.underlying t) H ν.nx s)) :
    OpQ P ν w (do pure (.value (← Builtin.len_ #[t] ty #[a]))) fun s => Q s H ν.nx := by
  unfold sLen at hr
  split at hr
  · have h1 := hs _ rfl
    simp only [Rel] at h1; obtain ⟨_, p, rfl, _⟩ := h1
    split at hr
    · rename_i hd
      exact .same (v := goInt _) (by simp [Builtin.len_, run_underlying hd]) rel_v hr
    · exact hr.elim
  · have h1 := hs _ rfl
    simp only [Rel] at h1; obtain ⟨_, _, _, rfl, _⟩ := h1
    split at hr
    · rename_i hd
      exact .same (v := goInt _) (by simp [Builtin.len_, run_underlying hd]) rel_v hr
    · exact hr.elim
  · have h1 := hs _ rfl
    simp only [Rel] at h1; subst h1
    split at hr
    · rename_i hd
      exact .same (v := goInt _) (by simp [Builtin.len_, run_underlying hd]) rel_v hr
    · exact hr.elim
  · have h1 := hs _ rfl
    simp only [Rel] at h1; subst h1
    split at hr
    · rename_i hd
      exact .same (v := goInt _) (by simp [Builtin.len_, run_underlying hd]) rel_v hr
    · exact hr.elim
  · exact hr.elim

theorem cap_sound {t ty : TypeId} {s : Option SV} {a : Value} (hs : ∀ q, s = some q → Rel ν q a) (hr : R1OK Q (sCap (P.underlying t) H ν.nx s)) :
    OpQ P ν w (do pure (.value (← Builtin.cap_ #[t] ty #[a]))) fun s => Q s H ν.nx := by
  unfold sCap at hr
  split at hr
  · have h1 := hs _ rfl
    simp only [Rel] at h1; obtain ⟨_, p, rfl, _⟩ := h1
    split at hr
    · rename_i hd
      exact .same (v := goInt _) (by simp [Builtin.cap_, run_underlying hd]) rel_v hr
    · exact hr.elim
  · have h1 := hs _ rfl
    simp only [Rel] at h1; subst h1
    split at hr
    · rename_i hd
      exact .same (v := goInt _) (by simp [Builtin.cap_, run_underlying hd]) rel_v hr
    · exact hr.elim
  · exact hr.elim

/-- An operand of x[lo:hi:mx]. -/
theorem optI_rel {q : Option (Option SV)} {z : Option Value} (hz : ∀ u, q = some u → ∃ a, z = some a ∧ ∀ s, u = some s → Rel ν s a) (hn : q = none → z = none) (r : Option Int) (h : optI q = some r) :
    (r = none ∧ z = none) ∨ ∃ k i, r = some i ∧ z = some (.int k i) := by
  unfold optI at h
  split at h
  · simp only [Option.some.injEq] at h
    exact .inl ⟨h.symm, hn rfl⟩
  · rename_i k i
    obtain ⟨a, h1, h2⟩ := hz _ rfl
    have := h2 _ rfl
    simp only [Rel] at this
    subst this
    simp only [Option.some.injEq] at h
    exact .inr ⟨_, i, h.symm, h1⟩
  · exact absurd h (by simp)

theorem bound_run {k : IntKind} {i : Int} {y : Nat} {c : BoundsCode} (h0 : 0 ≤ i) (h1 : i ≤ y) : (Instr.sliceBound (.int k i) y c).run P w = .ok i.toNat w := by
  simp [Instr.sliceBound, asIntOf, h0, h1]

theorem bounds_run {len cap : Nat} {lo hi mx : Option Int} {zl zh zm : Option Value}
    (hl : (lo = none ∧ zl = none) ∨ ∃ k i, lo = some i ∧ zl = some (.int k i)) (hh : (hi = none ∧ zh = none) ∨ ∃ k i, hi = some i ∧ zh = some (.int k i)) (hm : (mx = none ∧ zm = none) ∨ ∃ k i, mx = some i ∧ zm = some (.int k i))
    (h1 : 0 ≤ lo.getD 0) (h2 : lo.getD 0 ≤ hi.getD len) (h3 : hi.getD len ≤ mx.getD cap) (h4 : mx.getD cap ≤ cap) (h5 : mx.isSome → hi.isSome) :
    (Instr.sliceBounds true len cap zl zh zm).run P w = .ok ((lo.getD 0).toNat, (hi.getD len).toNat, (mx.getD cap).toNat) w := by
  rcases hm with ⟨rfl, rfl⟩ | ⟨km, im, rfl, rfl⟩
  · rcases hh with ⟨rfl, rfl⟩ | ⟨kh, ih, rfl, rfl⟩
    · rcases hl with ⟨rfl, rfl⟩ | ⟨kl, il, rfl, rfl⟩
      · simp [Instr.sliceBounds]
      · simp only [Option.getD_some, Option.getD_none] at h1 h2 h3 h4
        simp [Instr.sliceBounds, bound_run h1 h2]
    · simp only [Option.getD_some, Option.getD_none] at h1 h2 h3 h4
      rcases hl with ⟨rfl, rfl⟩ | ⟨kl, il, rfl, rfl⟩
      · simp only [Option.getD_some, Option.getD_none] at h1 h2
        simp [Instr.sliceBounds, bound_run h2 h3]
      · simp only [Option.getD_some, Option.getD_none] at h1 h2
        have := bound_run (P := P) (w := w) (k := kl) (y := ih.toNat) (c := .sliceB) h1 (by omega)
        simp [Instr.sliceBounds, bound_run (Int.le_trans h1 h2) h3, this]
  · rcases hh with ⟨rfl, rfl⟩ | ⟨kh, ih, rfl, rfl⟩
    · simp at h5
    · simp only [Option.getD_some] at h3 h4 h2
      have h0 : 0 ≤ ih := Int.le_trans h1 h2
      have e1 := bound_run (P := P) (w := w) (k := km) (y := cap) (c := .slice3Acap) (Int.le_trans h0 h3) h4
      have e2 := bound_run (P := P) (w := w) (k := kh) (y := im.toNat) (c := .slice3B) h0 (by omega)
      rcases hl with ⟨rfl, rfl⟩ | ⟨kl, il, rfl, rfl⟩
      · simp [Instr.sliceBounds, e1, e2]
      · simp only [Option.getD_some] at h1 h2
        have e3 := bound_run (P := P) (w := w) (k := kl) (y := ih.toNat) (c := .slice3C) h1 (by omega)
        simp [Instr.sliceBounds, e1, e2, e3]

theorem slice_sound {t : TypeId} {s : Option SV} {a : Value} {lo hi mx : Option (Option Int)} {zl zh zm : Option Value} (hs : ∀ q, s = some q → Rel ν q a)
    (hl : ∀ r, lo = some r → (r = none ∧ zl = none) ∨ ∃ k i, r = some i ∧ zl = some (.int k i)) (hh : ∀ r, hi = some r → (r = none ∧ zh = none) ∨ ∃ k i, r = some i ∧ zh = some (.int k i))
    (hm : ∀ r, mx = some r → (r = none ∧ zm = none) ∨ ∃ k i, r = some i ∧ zm = some (.int k i))
    (hr : R1OK Q (sSlice (P.underlying t) (obind (tySize P) (elemT (P.underlying t))) H ν.nx s lo hi mx)) : OpQ P ν w (do pure (.value (← Instr.sliceAt t a zl zh zm))) fun s => Q s H ν.nx := by
  unfold sSlice at hr
  split at hr
  · rename_i id sz off len cap lo hi mx
    have h1 := hs _ rfl
    simp only [Rel] at h1
    obtain ⟨hid, p, rfl, hp⟩ := h1
    split at hr
    · rename_i e n hd hn
      split at hr
      · rename_i hsz
        subst hsz
        obtain ⟨⟨b1, b2, b3, b4, b5⟩, hr⟩ := hr
        have hr := hr ⟨b1, b2, b3, b4, b5⟩
        have hn' := elem_size (P := P) (e := e) (by rw [hd]; rfl) hn
        have hb := fun w => bounds_run (P := P) (w := w) (hl _ rfl) (hh _ rfl) (hm _ rfl) b1 b2 b3 b4 b5
        refine .same (v := .slice (if (mx.getD cap).toNat = (lo.getD 0).toNat then p else p.map (·.add ((lo.getD 0).toNat * n))) ((hi.getD len).toNat - (lo.getD 0).toNat) ((mx.getD cap).toNat - (lo.getD 0).toNat)) ?_ (by
            refine ⟨hid, _, rfl, fun hc => ?_⟩
            rw [if_neg (by omega), hp (by omega)]
            simp only [Option.map_some, add_eq, Nat.add_mul, Nat.add_assoc]) hr
        · intro w
          simp only [Instr.sliceAt, Instr.slice, Sem.run_bind, run_underlying hd, Result.andThen_ok, hb, run_sizeOf hn', Sem.run_pure]
      · exact hr.elim
    · exact hr.elim
  · rename_i sz xs lo hi
    have h1 := hs _ rfl
    simp only [Rel] at h1
    obtain ⟨p, cap, ys, rfl, hcap, hrows, hrel, hones, hp⟩ := h1
    have hrows : Rows sz xs := hrows
    split at hr
    · rename_i e n hd hn
      split at hr
      · rename_i hsz
        subst hsz
        obtain ⟨⟨b1, b2, b3⟩, hr⟩ := hr
        have hr := hr ⟨b1, b2, b3⟩
        have hn' := elem_size (P := P) (e := e) (by rw [hd]; rfl) hn
        have hmx := hm _ rfl
        have hb := fun w => bounds_run (P := P) (w := w) (len := xs.length) (cap := cap) (mx := none) (hl _ rfl) (hh _ rfl) hmx b1 b2 (by simp only [Option.getD_none]; omega) (by simp) (by simp)
        have hcut : cutL lo hi xs = (xs.take (hi.getD xs.length).toNat).drop (lo.getD 0).toNat := by
          cases lo <;> cases hi <;> simp [cutL]
        have hlen : (cutL lo hi xs).length = (hi.getD xs.length).toNat - (lo.getD 0).toNat := by
          rw [hcut]; simp; omega
        have hyl := hrel.length hrows
        refine .same (v := .slice (if ((none : Option Int).getD (cap : Int)).toNat = (lo.getD 0).toNat then p else p.map (·.add ((lo.getD 0).toNat * n))) ((hi.getD xs.length).toNat - (lo.getD 0).toNat) (((none : Option Int).getD (cap : Int)).toNat - (lo.getD 0).toNat)) ?_ (by
            refine ⟨_, _, (ys.take ((hi.getD xs.length).toNat * n)).drop ((lo.getD 0).toNat * n), by rw [hlen], by rw [hlen]; simp only [Option.getD_none]; omega, ?_, ?_, fun v hv => hones v (List.mem_of_mem_take (List.mem_of_mem_drop hv)), fun hne => ?_⟩
            · rw [hcut]; exact (hrows.take _).drop _
            · rw [hcut]; exact (hrel.take hrows _).drop (hrows.take _) _
            · rw [hlen] at hne
              obtain ⟨bk, o, c, rfl, hro, hseg⟩ := hp (by omega)
              refine ⟨bk, o + (lo.getD 0).toNat * n, c, ?_, hro, fun j hj => ?_⟩
              · rw [if_neg (by simp only [Option.getD_none]; omega)]; simp [add_eq]
              · simp only [List.length_drop, List.length_take] at hj
                rw [List.getElem?_drop, List.getElem?_take_of_lt (by omega), Nat.add_assoc, hseg _ (by omega)]) hr
        · intro w
          simp only [Instr.sliceAt, Instr.slice, Sem.run_bind, run_underlying hd, Result.andThen_ok, hb, run_sizeOf hn', Sem.run_pure]
      · exact hr.elim
    · exact hr.elim
  · rename_i lo hi mx
    have h1 := hs _ rfl
    simp only [Rel] at h1
    subst h1
    split at hr
    · rename_i e n hd hn
      obtain ⟨⟨b1, b2, b3, b4⟩, hr⟩ := hr
      have hr := hr ⟨b1, b2, b3, b4⟩
      have hn' := elem_size (P := P) (e := e) (by rw [hd]; rfl) hn
      have hb := fun w => bounds_run (P := P) (w := w) (len := 0) (cap := 0) (hl _ rfl) (hh _ rfl) (hm _ rfl) (by omega) (by simp only [Int.natCast_zero]; omega) (by simp only [Int.natCast_zero]; omega) (by simp only [Int.natCast_zero]; omega) b4
      simp only [Int.natCast_zero, b1, b2, b3, Int.toNat_zero] at hb
      refine .same (v := .slice none 0 0) ?_ rel_v hr
      intro w
      simp only [Instr.sliceAt, Instr.slice, Sem.run_bind, run_underlying hd, Result.andThen_ok, hb, run_sizeOf hn', Sem.run_pure]
      simp
    · exact hr.elim
  · exact hr.elim
end
end Go.Sy

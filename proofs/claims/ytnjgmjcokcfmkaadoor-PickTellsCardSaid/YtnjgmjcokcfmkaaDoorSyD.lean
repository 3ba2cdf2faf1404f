/- What a symbolic state is true of. No condition. -/
import Derived.Test.YtnjgmjcokcfmkaaDoorSyB
namespace Go.Sy
open Go
set_option linter.unusedSimpArgs false
set_option linter.unusedVariables false

/- names -/
def Grows (ν ν' : Nm) : Prop := ν.nx ≤ ν'.nx ∧ (∀ i, i < ν.nx → ν'.blk i = ν.blk i) ∧ ∀ k c, ν.ro k = some c → ν'.ro k = some c
theorem Grows.refl (ν : Nm) : Grows ν ν := ⟨Nat.le_refl _, fun _ _ => rfl, fun _ _ h => h⟩
theorem Grows.trans {a b c : Nm} (h : Grows a b) (k : Grows b c) : Grows a c :=
  ⟨Nat.le_trans h.1 k.1, fun i hi => (k.2.1 i (Nat.lt_of_lt_of_le hi h.1)).trans (h.2.1 i hi), fun i d hd => k.2.2 i d (h.2.2 i d hd)⟩
theorem Grows.free {ν ν' : Nm} (g : Grows ν ν') : Grows ν.free ν'.free := ⟨Nat.le_refl _, fun i hi => absurd hi (Nat.not_lt_zero i), g.2.2⟩
theorem Grows.ofFree (ν : Nm) : Grows ν.free ν := ⟨Nat.zero_le _, fun i hi => absurd hi (Nat.not_lt_zero i), fun _ _ h => h⟩
theorem Nm.free_free (ν : Nm) : ν.free.free = ν.free := rfl

mutual
theorem Rel.grows {ν ν' : Nm} (g : Grows ν ν') : ∀ (s : SV) (y : Value), Rel ν s y → Rel ν' s y
  | .v x, y, h => by simpa [Rel] using h
  | .ptr id sz e r, y, h => by
    simp only [Rel] at h ⊢
    obtain ⟨h1, h2⟩ := h
    rw [g.2.1 id h1]
    exact ⟨Nat.lt_of_lt_of_le h1 g.1, h2⟩
  | .sl id sz off len cap, y, h => by
    simp only [Rel] at h ⊢
    obtain ⟨h1, h2⟩ := h
    rw [g.2.1 id h1]
    exact ⟨Nat.lt_of_lt_of_le h1 g.1, h2⟩
  | .rd sz xs, y, h => by
    simp only [Rel] at h ⊢
    obtain ⟨a, cap, ys, h1, h2, h3, h4, h5, h6⟩ := h
    refine ⟨a, cap, ys, h1, h2, h3, RelLL.grows g.free _ _ h4, h5, fun hn => ?_⟩
    obtain ⟨b, o, c, q1, q2, q3⟩ := h6 hn
    exact ⟨b, o, c, q1, g.2.2 _ _ q2, q3⟩
  | .rp x r, y, h => by
    simp only [Rel] at h ⊢
    obtain ⟨b, o, c, ys, h1, h2, h3, h4⟩ := h
    exact ⟨b, o, c, ys, h1, g.2.2 _ _ h2, RelL.grows g.free _ _ h3, h4⟩
  | .arr sz xs, y, h => by
    simp only [Rel] at h ⊢
    obtain ⟨c, h1, h2, h3, h4⟩ := h
    exact ⟨c, h1, h2, RelLL.grows g.free _ _ h3, h4⟩
  | .mp id, y, h => by
    simp only [Rel] at h ⊢
    rw [g.2.1 id h.1]
    exact ⟨Nat.lt_of_lt_of_le h.1 g.1, h.2⟩
  | .yl id, y, h => by
    simp only [Rel] at h ⊢
    rw [g.2.1 id h.1]
    exact ⟨Nat.lt_of_lt_of_le h.1 g.1, h.2⟩
  | .fn f first caps, y, h => by
    simp only [Rel] at h ⊢
    obtain ⟨fs, cs, h1, h2, h3⟩ := h
    exact ⟨fs, cs, h1, RelL.grows g _ _ h2, RelL.grows g _ _ h3⟩
  | .agg xs, y, h => by
    simp only [Rel] at h ⊢
    obtain ⟨c, h1, h2⟩ := h
    exact ⟨c, h1, RelL.grows g _ _ h2⟩
  | .tup xs, y, h => by
    simp only [Rel] at h ⊢
    obtain ⟨c, h1, h2⟩ := h
    exact ⟨c, h1, RelL.grows g _ _ h2⟩
theorem RelL.grows {ν ν' : Nm} (g : Grows ν ν') : ∀ (s : List SV) (y : List Value), RelL ν s y → RelL ν' s y
  | [], y, h => by simpa [RelL] using h
  | x :: xs, y, h => by
    simp only [RelL] at h ⊢
    obtain ⟨y0, ys, h1, h2, h3⟩ := h
    exact ⟨y0, ys, h1, Rel.grows g _ _ h2, RelL.grows g _ _ h3⟩
theorem RelLL.grows {ν ν' : Nm} (g : Grows ν ν') : ∀ (s : List (List SV)) (y : List Value), RelLL ν s y → RelLL ν' s y
  | [], y, h => by simpa [RelLL] using h
  | x :: xs, y, h => by
    simp only [RelLL] at h ⊢
    obtain ⟨y0, ys, h1, h2, h3⟩ := h
    exact ⟨y0, ys, h1, RelL.grows g _ _ h2, RelLL.grows g _ _ h3⟩
end

theorem RelL.length {ν : Nm} : ∀ {s : List SV} {y : List Value}, RelL ν s y → y.length = s.length
  | [], y, h => by simp [RelL] at h; simp [h]
  | x :: xs, y, h => by
    simp only [RelL] at h
    obtain ⟨y0, ys, rfl, _, h3⟩ := h
    simp [RelL.length h3]
theorem RelL.svs {ν : Nm} : ∀ (l : List Value), RelL ν (svs l) l
  | [] => by simp [Sy.svs, RelL]
  | x :: l => by
    simp only [Sy.svs, List.map_cons, RelL]
    exact ⟨x, l, rfl, rfl, RelL.svs l⟩

/- what is said of cells -/
theorem RelL.eq_svs {ν : Nm} : ∀ (l : List Value) {y : List Value}, RelL ν (Sy.svs l) y → y = l
  | [], y, h => by simpa [Sy.svs, RelL] using h
  | x :: l, y, h => by
    simp only [Sy.svs, List.map_cons, RelL, Rel] at h
    obtain ⟨y0, ys, rfl, rfl, h3⟩ := h
    rw [RelL.eq_svs l h3]

theorem RelL.takeN {ν : Nm} : ∀ (n : Nat) {s : List SV} {y : List Value} {r : List SV}, RelL ν s y → Sy.takeN s n = some r → n ≤ y.length ∧ RelL ν r (y.take n)
  | 0, s, y, r, h, ht => by
    have : r = [] := by cases s <;> simp_all [Sy.takeN]
    subst this; simp [RelL]
  | n + 1, [], y, r, h, ht => by simp [Sy.takeN] at ht
  | n + 1, x :: s, y, r, h, ht => by
    simp only [RelL] at h
    obtain ⟨y0, ys, rfl, h2, h3⟩ := h
    simp only [Sy.takeN] at ht
    cases hr : Sy.takeN s n with
    | none => simp [hr] at ht
    | some r' =>
      simp only [hr, Option.some.injEq] at ht
      subst ht
      obtain ⟨k1, k2⟩ := RelL.takeN n h3 hr
      exact ⟨by simpa using k1, by simp only [List.take_succ_cons, RelL]; exact ⟨_, _, rfl, h2, k2⟩⟩

theorem RelL.cut {ν : Nm} : ∀ (o n : Nat) {s : List SV} {y : List Value} {r : List SV}, RelL ν s y → Sy.cut s o n = some r → o + n ≤ y.length ∧ RelL ν r ((y.drop o).take n)
  | 0, n, s, y, r, h, ht => by
    have ht : Sy.takeN s n = some r := by cases s <;> simpa [Sy.cut] using ht
    simpa using RelL.takeN n h ht
  | o + 1, n, [], y, r, h, ht => by simp [Sy.cut] at ht
  | o + 1, n, x :: s, y, r, h, ht => by
    simp only [RelL] at h
    obtain ⟨y0, ys, rfl, h2, h3⟩ := h
    have := RelL.cut o n h3 (by simpa [Sy.cut] using ht)
    exact ⟨by simp only [List.length_cons]; omega, by simpa using this.2⟩

theorem RelL.over {ν : Nm} : ∀ {s t : List SV} {y z : List Value} {r : List SV}, RelL ν s y → RelL ν t z → Sy.over s t = some r → z.length ≤ y.length ∧ RelL ν r (z ++ y.drop z.length)
  | s, [], y, z, r, h, hz, ht => by
    simp only [RelL] at hz
    subst hz
    have : r = s := by cases s <;> simp_all [Sy.over]
    subst this; simpa using h
  | [], t :: ts, y, z, r, h, hz, ht => by simp [Sy.over] at ht
  | x :: s, t :: ts, y, z, r, h, hz, ht => by
    simp only [RelL] at h hz
    obtain ⟨y0, ys, rfl, h2, h3⟩ := h
    obtain ⟨z0, zs, rfl, k2, k3⟩ := hz
    simp only [Sy.over] at ht
    cases hr : Sy.over s ts with
    | none => simp [hr] at ht
    | some r' =>
      simp only [hr, Option.some.injEq] at ht
      subst ht
      obtain ⟨q1, q2⟩ := RelL.over h3 k3 hr
      exact ⟨by simpa using q1, by simp only [List.length_cons, List.drop_succ_cons, List.cons_append, RelL]; exact ⟨_, _, rfl, k2, q2⟩⟩

theorem RelL.paste {ν : Nm} : ∀ (o : Nat) {s t : List SV} {y z : List Value} {r : List SV}, RelL ν s y → RelL ν t z → Sy.paste s o t = some r →
    o + z.length ≤ y.length ∧ RelL ν r (y.take o ++ z ++ y.drop (o + z.length))
  | 0, s, t, y, z, r, h, hz, ht => by
    have ht : Sy.over s t = some r := by cases s <;> simpa [Sy.paste] using ht
    simpa using RelL.over h hz ht
  | o + 1, [], t, y, z, r, h, hz, ht => by simp [Sy.paste] at ht
  | o + 1, x :: s, t, y, z, r, h, hz, ht => by
    simp only [RelL] at h
    obtain ⟨y0, ys, rfl, h2, h3⟩ := h
    simp only [Sy.paste] at ht
    cases hr : Sy.paste s o t with
    | none => simp [hr] at ht
    | some r' =>
      simp only [hr, Option.some.injEq] at ht
      subst ht
      obtain ⟨q1, q2⟩ := RelL.paste o h3 hz hr
      refine ⟨by simp; omega, ?_⟩
      simp only [RelL]
      refine ⟨y0, _, ?_, h2, q2⟩
      simp [Nat.add_right_comm]

theorem over_eq {α : Type} : ∀ {s t r : List α}, Sy.over s t = some r → t.length ≤ s.length ∧ r = t ++ s.drop t.length
  | s, [], r, h => by
    have : r = s := by cases s <;> simp_all [Sy.over]
    simp [this]
  | [], t :: ts, r, h => by simp [Sy.over] at h
  | x :: s, t :: ts, r, h => by
    simp only [Sy.over] at h
    cases hr : Sy.over s ts with
    | none => simp [hr] at h
    | some r' =>
      simp only [hr, Option.some.injEq] at h
      obtain ⟨h1, h2⟩ := over_eq hr
      subst h2; subst h
      exact ⟨by simpa using h1, by simp⟩
theorem paste_eq {α : Type} : ∀ (o : Nat) {s t r : List α}, Sy.paste s o t = some r → o + t.length ≤ s.length ∧ r = s.take o ++ t ++ s.drop (o + t.length)
  | 0, s, t, r, h => by
    have h : Sy.over s t = some r := by cases s <;> simpa [Sy.paste] using h
    simpa using over_eq h
  | o + 1, [], t, r, h => by simp [Sy.paste] at h
  | o + 1, x :: s, t, r, h => by
    simp only [Sy.paste] at h
    cases hr : Sy.paste s o t with
    | none => simp [hr] at h
    | some r' =>
      simp only [hr, Option.some.injEq] at h
      obtain ⟨h1, h2⟩ := paste_eq o hr
      subst h2; subst h
      exact ⟨by simp; omega, by simp [Nat.add_right_comm]⟩

theorem RelL.append {ν : Nm} : ∀ {s t : List SV} {y z : List Value}, RelL ν s y → RelL ν t z → RelL ν (s ++ t) (y ++ z)
  | [], t, y, z, h, hz => by simp [RelL] at h; subst h; simpa using hz
  | x :: s, t, y, z, h, hz => by
    simp only [RelL] at h
    obtain ⟨y0, ys, rfl, h2, h3⟩ := h
    simp only [List.cons_append, RelL]
    exact ⟨y0, _, rfl, h2, RelL.append h3 hz⟩
theorem RelL.get {ν : Nm} : ∀ {s : List SV} {y : List Value} (i : Nat) {x : SV}, RelL ν s y → s[i]? = some x → ∃ z, y[i]? = some z ∧ Rel ν x z
  | [], y, i, x, h, hi => by simp at hi
  | a :: s, y, i, x, h, hi => by
    simp only [RelL] at h
    obtain ⟨y0, ys, rfl, h2, h3⟩ := h
    cases i with
    | zero => simp at hi; subst hi; exact ⟨y0, rfl, h2⟩
    | succ i =>
      obtain ⟨z, k1, k2⟩ := RelL.get i h3 (by simpa using hi)
      exact ⟨z, by simpa using k1, k2⟩
theorem RelL.take {ν : Nm} : ∀ (n : Nat) {s : List SV} {y : List Value}, RelL ν s y → RelL ν (s.take n) (y.take n)
  | 0, s, y, _ => by simp [RelL]
  | n + 1, [], y, h => by simp only [RelL] at h; subst h; simp [RelL]
  | n + 1, x :: s, y, h => by
    simp only [RelL] at h
    obtain ⟨y0, ys, rfl, h2, h3⟩ := h
    simp only [List.take_succ_cons, RelL]
    exact ⟨y0, _, rfl, h2, RelL.take n h3⟩
theorem RelL.drop {ν : Nm} : ∀ (n : Nat) {s : List SV} {y : List Value}, RelL ν s y → RelL ν (s.drop n) (y.drop n)
  | 0, s, y, h => by simpa using h
  | n + 1, [], y, h => by simp only [RelL] at h; subst h; simp [RelL]
  | n + 1, x :: s, y, h => by
    simp only [RelL] at h
    obtain ⟨y0, ys, rfl, h2, h3⟩ := h
    simpa using RelL.drop n h3

theorem vals_eq : ∀ {l : List SV} {vs : List Value}, vals l = some vs → l = svs vs
  | [], vs, h => by simp [vals] at h; subst h; rfl
  | .v x :: l, vs, h => by
    simp only [vals] at h
    cases hr : vals l with
    | none => simp [hr] at h
    | some r => simp only [hr, Option.some.injEq] at h; subst h; simp [Sy.svs, vals_eq hr]
  | .ptr .. :: _, _, h => by simp [vals] at h
  | .sl .. :: _, _, h => by simp [vals] at h
  | .rd .. :: _, _, h => by simp [vals] at h
  | .rp .. :: _, _, h => by simp [vals] at h
  | .arr .. :: _, _, h => by simp [vals] at h
  | .mp .. :: _, _, h => by simp [vals] at h
  | .yl .. :: _, _, h => by simp [vals] at h
  | .fn .. :: _, _, h => by simp [vals] at h
  | .agg _ :: _, _, h => by simp [vals] at h
  | .tup _ :: _, _, h => by simp [vals] at h

/-- No array. -/
def notArr : SV → Prop
  | .arr .. => False
  | _ => True
theorem RelL.cellsS {ν : Nm} : ∀ {s : SV} {y : Value}, notArr s → Rel ν s y → RelL ν (Sy.cellsS s) y.cells.toList
  | .agg cs, y, _, h => by
    simp only [Rel] at h
    obtain ⟨c, rfl, h2⟩ := h
    exact h2
  | .v x, y, _, h => by simp only [Rel] at h; subst h; exact RelL.svs _
  | .ptr id sz e r, y, _, h => by
    have h' := h
    simp only [Rel] at h; obtain ⟨_, rfl⟩ := h
    exact ⟨_, _, rfl, h', rfl⟩
  | .sl .., y, _, h => by
    have h' := h
    simp only [Rel] at h; obtain ⟨_, a, rfl, _⟩ := h
    exact ⟨_, _, rfl, h', rfl⟩
  | .rd .., y, _, h => by
    have h' := h
    simp only [Rel] at h; obtain ⟨a, cap, ys, rfl, _⟩ := h
    exact ⟨_, _, rfl, h', rfl⟩
  | .rp .., y, _, h => by
    have h' := h
    simp only [Rel] at h; obtain ⟨a, cap, c, ys, rfl, _⟩ := h
    exact ⟨_, _, rfl, h', rfl⟩
  | .mp .., y, _, h => by
    have h' := h
    simp only [Rel] at h; obtain ⟨_, rfl⟩ := h
    exact ⟨_, _, rfl, h', rfl⟩
  | .yl .., y, _, h => by
    have h' := h
    simp only [Rel] at h; obtain ⟨_, rfl⟩ := h
    exact ⟨_, _, rfl, h', rfl⟩
  | .fn .., y, _, h => by
    have h' := h
    simp only [Rel] at h; obtain ⟨_, _, rfl, _⟩ := h
    exact ⟨_, _, rfl, h', rfl⟩
  | .tup _, y, _, h => by
    have h' := h
    simp only [Rel] at h; obtain ⟨_, rfl, _⟩ := h
    exact ⟨_, _, rfl, h', rfl⟩

theorem ones_cells {ν : Nm} : ∀ {s : List SV} {y : List Value}, RelL ν s y → ones s → ∀ v ∈ y, v.oneCell' = true
  | [], y, h, _, v, hv => by simp [RelL] at h; subst h; simp at hv
  | x :: s, y, h, ho, v, hv => by
    simp only [RelL] at h
    obtain ⟨y0, ys, rfl, h2, h3⟩ := h
    obtain ⟨o1, o2⟩ := ho
    rcases List.mem_cons.1 hv with rfl | hv
    · cases x with
      | v x => simp only [Rel] at h2; subst h2; exact o1
      | ptr => simp only [Rel] at h2; obtain ⟨_, rfl⟩ := h2; rfl
      | sl => simp only [Rel] at h2; obtain ⟨_, _, rfl, _⟩ := h2; rfl
      | rd => simp only [Rel] at h2; obtain ⟨_, _, _, rfl, _⟩ := h2; rfl
      | rp => simp only [Rel] at h2; obtain ⟨_, _, _, _, rfl, _⟩ := h2; rfl
      | arr => exact o1.elim
      | mp => simp only [Rel] at h2; obtain ⟨_, rfl⟩ := h2; rfl
      | yl => simp only [Rel] at h2; obtain ⟨_, rfl⟩ := h2; rfl
      | fn => simp only [Rel] at h2; obtain ⟨_, _, rfl, _⟩ := h2; rfl
      | agg => exact o1.elim
      | tup => exact o1.elim
    · exact ones_cells h3 o2 v hv

/- rows -/
theorem RelLL.flat {ν : Nm} : ∀ {xs : List (List SV)} {ys : List Value}, RelLL ν xs ys ↔ RelL ν xs.flatten ys
  | [], ys => by simp [RelLL, RelL]
  | x :: xs, ys => by
    simp only [RelLL, List.flatten_cons]
    constructor
    · rintro ⟨y, ys', rfl, h1, h2⟩
      exact h1.append (RelLL.flat.1 h2)
    · intro h
      refine ⟨ys.take x.length, ys.drop x.length, (List.take_append_drop _ _).symm, ?_, RelLL.flat.2 ?_⟩
      · simpa using h.take x.length
      · simpa using h.drop x.length
/-- Rows of this size. -/
def Rows (sz : Nat) (xs : List (List SV)) : Prop := ∀ x ∈ xs, x.length = sz
theorem Rows.flat {sz : Nat} : ∀ {xs : List (List SV)}, Rows sz xs → xs.flatten.length = xs.length * sz
  | [], _ => by simp
  | x :: xs, h => by
    rw [List.flatten_cons, List.length_append, h x (by simp), Rows.flat (fun y hy => h y (by simp [hy])), List.length_cons, Nat.add_mul]; omega
theorem RelLL.length {ν : Nm} {sz : Nat} {xs : List (List SV)} {ys : List Value} (h : RelLL ν xs ys) (hs : Rows sz xs) : ys.length = xs.length * sz := by
  rw [(RelLL.flat.1 h).length, hs.flat]
theorem flatten_take {sz : Nat} : ∀ {xs : List (List SV)} (k : Nat), Rows sz xs → (xs.take k).flatten = xs.flatten.take (k * sz)
  | [], k, _ => by simp
  | x :: xs, 0, _ => by simp
  | x :: xs, k + 1, h => by
    have hx := h x (by simp)
    have e : (k + 1) * sz = x.length + k * sz := by rw [Nat.add_mul, hx]; omega
    rw [List.take_succ_cons, List.flatten_cons, List.flatten_cons, flatten_take k (fun y hy => h y (by simp [hy])), List.take_append, e]
    rw [List.take_of_length_le (l := x) (by omega), show x.length + k * sz - x.length = k * sz by omega]
theorem flatten_drop {sz : Nat} : ∀ {xs : List (List SV)} (k : Nat), Rows sz xs → (xs.drop k).flatten = xs.flatten.drop (k * sz)
  | [], k, _ => by simp
  | x :: xs, 0, _ => by simp
  | x :: xs, k + 1, h => by
    have hx := h x (by simp)
    have e : (k + 1) * sz = x.length + k * sz := by rw [Nat.add_mul, hx]; omega
    rw [List.drop_succ_cons, List.flatten_cons, flatten_drop k (fun y hy => h y (by simp [hy])), List.drop_append, e]
    rw [List.drop_of_length_le (show x.length ≤ x.length + k * sz by omega), show x.length + k * sz - x.length = k * sz by omega, List.nil_append]
theorem RelLL.take {ν : Nm} {sz : Nat} {xs : List (List SV)} {ys : List Value} (h : RelLL ν xs ys) (hs : Rows sz xs) (k : Nat) : RelLL ν (xs.take k) (ys.take (k * sz)) := by
  rw [RelLL.flat, flatten_take k hs]; exact (RelLL.flat.1 h).take _
theorem RelLL.drop {ν : Nm} {sz : Nat} {xs : List (List SV)} {ys : List Value} (h : RelLL ν xs ys) (hs : Rows sz xs) (k : Nat) : RelLL ν (xs.drop k) (ys.drop (k * sz)) := by
  rw [RelLL.flat, flatten_drop k hs]; exact (RelLL.flat.1 h).drop _
theorem RelLL.append {ν : Nm} {xs xs' : List (List SV)} {ys ys' : List Value} (h : RelLL ν xs ys) (h' : RelLL ν xs' ys') : RelLL ν (xs ++ xs') (ys ++ ys') := by
  rw [RelLL.flat, List.flatten_append]; exact (RelLL.flat.1 h).append (RelLL.flat.1 h')
theorem Rows.take {sz : Nat} {xs : List (List SV)} (h : Rows sz xs) (k : Nat) : Rows sz (xs.take k) := fun x hx => h x (List.mem_of_mem_take hx)
theorem Rows.drop {sz : Nat} {xs : List (List SV)} (h : Rows sz xs) (k : Nat) : Rows sz (xs.drop k) := fun x hx => h x (List.mem_of_mem_drop hx)
theorem Rows.append {sz : Nat} {xs xs' : List (List SV)} (h : Rows sz xs) (h' : Rows sz xs') : Rows sz (xs ++ xs') := fun x hx => (List.mem_append.1 hx).elim (h x) (h' x)
theorem getD_mem {α : Type} {xs : List α} {e : Nat} {d : α} (h : e < xs.length) : xs.getD e d ∈ xs := by simp [List.getD, h]
theorem drop_take_one {α : Type} (xs : List α) (e : Nat) (d : α) (h : e < xs.length) : (xs.drop e).take 1 = [xs.getD e d] := by
  rw [List.drop_eq_getElem_cons h, List.take_succ_cons, List.take_zero]; simp [List.getD, h]
theorem RelLL.elem {ν : Nm} {sz : Nat} {xs : List (List SV)} {ys : List Value} (h : RelLL ν xs ys) (hs : Rows sz xs) {e : Nat} (he : e < xs.length) : RelL ν (xs.getD e []) ((ys.drop (e * sz)).take sz) := by
  have h1 := (h.drop hs e).take (hs.drop e) 1
  rw [drop_take_one xs e [] he, Nat.one_mul] at h1
  simp only [RelLL] at h1
  obtain ⟨y, ys', h2, h3, rfl⟩ := h1
  rw [h2]; simpa using h3
theorem RelLL.set {ν : Nm} {sz : Nat} {xs : List (List SV)} {ys zs : List Value} {l : List SV} {e : Nat} (h : RelLL ν xs ys) (hs : Rows sz xs) (he : e < xs.length) (hl : RelL ν l zs) (hll : l.length = sz) :
    RelLL ν (xs.set e l) (ys.take (e * sz) ++ (zs ++ ys.drop (e * sz + sz))) := by
  have e1 : xs.set e l = xs.take e ++ ([l] ++ xs.drop (e + 1)) := by
    rw [List.set_eq_take_append_cons_drop, if_pos he]; simp
  rw [e1]
  refine (h.take hs e).append (RelLL.append ⟨zs, [], by simp, hl, rfl⟩ ?_)
  have := h.drop hs (e + 1)
  rw [Nat.add_mul, Nat.one_mul] at this; exact this
theorem Rows.set {sz : Nat} {xs : List (List SV)} {l : List SV} {e : Nat} (hs : Rows sz xs) (hl : l.length = sz) : Rows sz (xs.set e l) := fun x hx =>
  (List.mem_or_eq_of_mem_set hx).elim (hs x) (fun h => h ▸ hl)

/- a state -/
def Blk.real : Blk → Prop
  | .row _ cap _ _ => cap ≠ 0
  | _ => True
/-- A map's key. -/
def keyV (ag : Bool) (ks : List IntKind) (ns : List Int) : Value :=
  match ag, List.zipWith Value.int ks ns with
  | false, [v] => v
  | _, vs => .agg vs.toArray
/-- What a map's entries are. -/
structure MapOK (ν : Nm) (ag : Bool) (ks : List IntKind) (f : List Int → Option SV) (es : List MapEntry) (clock : Nat) : Prop where
  one : ag = false → ks.length = 1
  in_ : ∀ e ∈ es, ∃ ns s, ns.length = ks.length ∧ e.key = keyV ag ks ns ∧ f ns = some s ∧ Rel ν.free s e.val
  out : ∀ ns s, ns.length = ks.length → f ns = some s → ∃ e ∈ es, e.key = keyV ag ks ns
  nd : (es.map (·.key)).Nodup
  bd : ∀ e ∈ es, e.born < clock
  bn : (es.map (·.born)).Nodup

def RelE (ν : Nm) (nt : Nat) (env : Env) (tm : Array Value) : Prop := tm.size = nt ∧ ∀ t s, env.get t = some s → ∃ y, tm[t]? = some y ∧ Rel ν s y

def BlkOK (ν : Nm) (w : World) (id : Nat) : Blk → Prop
  | .own cells T => id < ν.nx ∧ ∃ c, w.heap[ν.blk id]? = some (.cells c T (0, 0)) ∧ RelL ν cells c.toList
  | .row sz cap T xs => id < ν.nx ∧ xs.length ≤ cap ∧ Rows sz xs ∧ ∃ ys, RelLL ν.free xs ys ∧ (∀ v ∈ ys, v.oneCell' = true) ∧
      (cap ≠ 0 → ∃ c, w.heap[ν.blk id]? = some (.cells c T (0, 0)) ∧ c.size = cap * sz ∧ ∀ j, j < ys.length → c[j]? = ys[j]?)
  | .map ag ks f => id < ν.nx ∧ ∃ es clock, w.heap[ν.blk id]? = some (.map es clock) ∧ MapOK ν ag ks f es.toList clock
  | .loop st pend fn nt env params assign body d => id < ν.nx ∧ d < ν.nx ∧ ∃ tm, w.heap[ν.blk id]? = some (.loop ⟨st, pend, fn, tm, params, assign, body, ν.blk d⟩) ∧ RelE ν nt env tm
  | .obj o => id < ν.nx ∧ (∀ c T fz, o ≠ .cells c T fz) ∧ w.heap[ν.blk id]? = some o
  | .iter m clock seen => id < ν.nx ∧ m < ν.nx ∧ w.heap[ν.blk id]? = some (.mapIter (some (ν.blk m)) clock seen clock)

/-- The names of nothing. -/
def nm0 : Nm := ⟨0, fun _ => 0, fun _ => none⟩
structure Ctx where
  w0 : World
  S : Nat → Prop
  /-- names that stay -/
  nm : Nm
  gl : Gl

structure Fix (w w' : World) : Prop where
  os : w'.os = w.os
  tape : w'.tape = w.tape
  output : w'.output = w.output
theorem Fix.refl (w : World) : Fix w w := ⟨rfl, rfl, rfl⟩
theorem Fix.trans {a b c : World} (h : Fix a b) (k : Fix b c) : Fix a c := ⟨k.os.trans h.os, k.tape.trans h.tape, k.output.trans h.output⟩

/-- The world has only grown. -/
structure Ext (w w' : World) : Prop where
  fix : Fix w w'
  size : w.heap.size ≤ w'.heap.size
  block : ∀ k, k < w.heap.size → w'.heap[k]? = w.heap[k]?
theorem Ext.refl (w : World) : Ext w w := ⟨.refl _, Nat.le_refl _, fun _ _ => rfl⟩
theorem Ext.trans {a b c : World} (h : Ext a b) (k : Ext b c) : Ext a c :=
  ⟨h.fix.trans k.fix, Nat.le_trans h.size k.size, fun i hi => (k.block i (Nat.lt_of_lt_of_le hi h.size)).trans (h.block i hi)⟩

structure Holds (x : Ctx) (ν : Nm) (H : Heap) (w : World) : Prop where
  ok : ∀ id b, H.get id = some b → BlkOK ν w id b
  sep : ∀ i b j c, H.get i = some b → H.get j = some c → i ≠ j → b.real → c.real → ν.blk i ≠ ν.blk j
  mine : ∀ id b, H.get id = some b → b.real → x.w0.heap.size ≤ ν.blk id ∨ x.S (ν.blk id)
  ro : ∀ k c, ν.ro k = some c → ∃ T fz, w.heap[k]? = some (.cells c T fz)
  rosep : ∀ id b, H.get id = some b → b.real → ν.ro (ν.blk id) = none
  ronew : ∀ k c, ν.ro k = some c → x.nm.ro k = some c ∨ x.w0.heap.size ≤ k ∨ x.S k
  gl : ∀ g l, x.gl.get g = some l → ν.ro g = some l.toArray
  frame : ∀ k, k < x.w0.heap.size → ¬ x.S k → w.heap[k]? = x.w0.heap[k]?
  size : x.w0.heap.size ≤ w.heap.size
  fix : Fix x.w0 w
  anc : Grows x.nm ν

theorem RelE.grows {ν ν' : Nm} {nt : Nat} {env : Env} {tm : Array Value} (h : RelE ν nt env tm) (g : Grows ν ν') : RelE ν' nt env tm :=
  ⟨h.1, fun t s hs => let ⟨y, h1, h2⟩ := h.2 t s hs; ⟨y, h1, h2.grows g⟩⟩
theorem RelE.put {ν : Nm} {nt : Nat} {env : Env} {tm : Array Value} {d : Nat} {s : SV} {y : Value} (h : RelE ν nt env tm) (hd : d < nt) (hy : Rel ν s y) :
    RelE ν nt ((d, s) :: env) (tm.setIfInBounds d y) := by
  refine ⟨by simp [h.1], fun t u hu => ?_⟩
  simp only [Env.get] at hu
  split at hu
  · rename_i e; subst e; simp at hu; subst hu
    exact ⟨y, by simp [h.1, hd], hy⟩
  · rename_i hne
    obtain ⟨z, h1, h2⟩ := h.2 t u hu
    exact ⟨z, by simp [hne, h1], h2⟩
/-- A slot that is known to hold what it holds. -/
theorem RelE.know {ν : Nm} {nt : Nat} {env : Env} {tm : Array Value} {d : Nat} {s : SV} {y : Value} (h : RelE ν nt env tm) (hd : tm[d]? = some y) (hy : Rel ν s y) :
    RelE ν nt ((d, s) :: env) tm := by
  refine ⟨h.1, fun t u hu => ?_⟩
  simp only [Env.get] at hu
  split at hu
  · rename_i e; subst e; simp at hu; subst hu; exact ⟨y, hd, hy⟩
  · exact h.2 t u hu

/-- What is known of package-level variables. -/
def GlOK (gl : Gl) (ν : Nm) : Prop := ∀ g l, gl.get g = some l → ν.ro g = some l.toArray
theorem glS_rel {gl : Gl} {ν : Nm} (hg : GlOK gl ν) (g : Nat) : Rel ν (glS g (gl.get g)) (.pointer (some ⟨g, 0, none⟩)) := by
  cases h : gl.get g with
  | none => rfl
  | some l => exact ⟨g, 0, l.toArray, l, by simp, hg g l h, RelL.svs l, fun j _ => by simp⟩
theorem ev_rel {ν : Nm} {gl : Gl} (hg : GlOK gl ν) {nt : Nat} {env : Env} {a : Act} {x : Operand} {s : SV} (h : RelE ν nt env a.tmps) (hs : ev gl env x = some s) : Rel ν s (a.eval x) := by
  cases x with
  | tmp t =>
    obtain ⟨y, h1, h2⟩ := h.2 t s hs
    simpa [Act.eval, Array.getD_eq_getD_getElem?, h1] using h2
  | const v => simp [ev] at hs; subst hs; rfl
  | global g => simp only [ev, Option.some.injEq] at hs; subst hs; exact glS_rel hg g
  | func f => simp [ev] at hs; subst hs; rfl
theorem evs_rel {ν : Nm} {gl : Gl} (hg : GlOK gl ν) {nt : Nat} {env : Env} {a : Act} (h : RelE ν nt env a.tmps) : ∀ {xs : List Operand} {ss : List SV}, evs gl env xs = some ss → RelL ν ss (xs.map a.eval)
  | [], ss, hs => by simp [evs] at hs; subst hs; simp [RelL]
  | x :: xs, ss, hs => by
    simp only [evs] at hs
    cases h1 : ev gl env x with
    | none => simp [h1] at hs
    | some s =>
      cases h2 : evs gl env xs with
      | none => simp [h1, h2] at hs
      | some t =>
        simp only [h1, h2, Option.some.injEq] at hs
        subst hs
        simp only [List.map_cons, RelL]
        exact ⟨_, _, rfl, ev_rel hg h h1, evs_rel hg h h2⟩
theorem Holds.glOK {x : Ctx} {ν : Nm} {H : Heap} {w : World} (h : Holds x ν H w) : GlOK x.gl ν := h.gl

/- the heap -/
theorem Heap.get_cons (H : Heap) (i j : Nat) (b : Blk) : Heap.get ((i, b) :: H) j = if i = j then some b else H.get j := rfl
theorem Heap.get_set : ∀ (H : Heap) (i j : Nat) (b : Blk), (Heap.set H i b).get j = if i = j then (H.get i).map fun _ => b else H.get j
  | [], i, j, b => by simp [Heap.set, Heap.get]
  | (t, x) :: H, i, j, b => by
    have ih := Heap.get_set H i j b
    simp only [Heap.set]
    by_cases h : t = i
    · subst h
      simp only [if_true, Heap.get]
      by_cases h2 : t = j <;> simp [h2]
    · simp only [h, if_false, Heap.get]
      by_cases h2 : t = j
      · subst h2; simp; intro h3; exact absurd h3.symm h
      · simp only [h2, if_false, ih]
theorem Heap.get_drop : ∀ (H : Heap) (i j : Nat), (Heap.drop H i).get j = if i = j then none else H.get j
  | [], i, j => by simp [Heap.drop, Heap.get]
  | (t, b) :: H, i, j => by
    have ih := Heap.get_drop H i j
    simp only [Heap.drop]
    by_cases h : t = i
    · subst h
      simp only [if_true, ih, Heap.get]
      by_cases h2 : t = j <;> simp [h2]
    · simp only [h, if_false, Heap.get]
      by_cases h2 : t = j
      · subst h2; simp; intro h3; exact absurd h3.symm h
      · simp only [h2, if_false, ih]

theorem BlkOK.lt {ν : Nm} {w : World} {id : Nat} {b : Blk} (h : BlkOK ν w id b) : id < ν.nx := by cases b <;> exact h.1

theorem cell?_heap {w w' : World} {a : Addr} (h : w'.heap[a.block]? = w.heap[a.block]?) : w'.cell? a = w.cell? a := by simp [World.cell?, h]

theorem MapOK.grows {ν ν' : Nm} {ag : Bool} {ks : List IntKind} {f : List Int → Option SV} {es : List MapEntry} {clock : Nat} (h : MapOK ν ag ks f es clock) (g : Grows ν ν') : MapOK ν' ag ks f es clock :=
  ⟨h.one, fun e he => let ⟨ns, s, h1, h2, h3, h4⟩ := h.in_ e he; ⟨ns, s, h1, h2, h3, h4.grows g.free⟩, h.out, h.nd, h.bd, h.bn⟩

/-- A block says the same where its world's block is the same. -/
theorem BlkOK.keep {ν ν' : Nm} {w w' : World} {id : Nat} {b : Blk} (h : BlkOK ν w id b) (g : Grows ν ν') (hw : b.real → w'.heap[ν.blk id]? = w.heap[ν.blk id]?) : BlkOK ν' w' id b := by
  have hl := h.lt
  have gl : id < ν'.nx := Nat.lt_of_lt_of_le hl g.1
  have gb := g.2.1 id hl
  cases b with
  | own cells T =>
    obtain ⟨_, c, h2, h3⟩ := h
    refine ⟨gl, c, ?_, h3.grows g⟩
    rw [gb, hw trivial]; exact h2
  | row sz cap T xs =>
    obtain ⟨_, h1, h2, ys, h3, h4, h5⟩ := h
    refine ⟨gl, h1, h2, ys, h3.grows g.free, h4, fun hc => ?_⟩
    obtain ⟨c, h6⟩ := h5 hc
    refine ⟨c, ?_, h6.2⟩
    rw [gb, hw hc]; exact h6.1
  | map ag ks f =>
    obtain ⟨_, es, clock, h1, h2⟩ := h
    refine ⟨gl, es, clock, ?_, h2.grows g⟩
    rw [gb, hw trivial]; exact h1
  | loop st pend fn nt env params assign body d =>
    obtain ⟨_, hd, tm, h1, h2⟩ := h
    refine ⟨gl, Nat.lt_of_lt_of_le hd g.1, tm, ?_, h2.grows g⟩
    rw [gb, hw trivial, g.2.1 d hd]; exact h1
  | obj o =>
    obtain ⟨_, h1, h2⟩ := h
    refine ⟨gl, h1, ?_⟩
    rw [gb, hw trivial]; exact h2
  | iter m clock seen =>
    obtain ⟨_, hm, h2⟩ := h
    refine ⟨gl, Nat.lt_of_lt_of_le hm g.1, ?_⟩
    rw [gb, hw trivial, g.2.1 m hm]; exact h2

theorem BlkOK.inside {ν : Nm} {w : World} {id : Nat} {b : Blk} (h : BlkOK ν w id b) (hp : b.real) : ν.blk id < w.heap.size := by
  cases b with
  | own cells T => obtain ⟨_, c, h2, _⟩ := h; exact (Array.getElem?_eq_some_iff.1 h2).1
  | row sz cap T xs => obtain ⟨_, _, _, ys, _, _, h3⟩ := h; obtain ⟨c, h5, _⟩ := h3 hp; exact (Array.getElem?_eq_some_iff.1 h5).1
  | map ag ks f => obtain ⟨_, es, clock, h1, _⟩ := h; exact (Array.getElem?_eq_some_iff.1 h1).1
  | loop st pend fn nt env params assign body d => obtain ⟨_, _, tm, h1, _⟩ := h; exact (Array.getElem?_eq_some_iff.1 h1).1
  | obj o => exact (Array.getElem?_eq_some_iff.1 h.2.2).1
  | iter m clock seen => exact (Array.getElem?_eq_some_iff.1 h.2.2).1

theorem ro_lt {x : Ctx} {ν : Nm} {H : Heap} {w : World} (h : Holds x ν H w) {k : Nat} {c : Array Value} (hk : ν.ro k = some c) : k < w.heap.size := by
  obtain ⟨T, fz, h1⟩ := h.ro k c hk
  exact (Array.getElem?_eq_some_iff.1 h1).1

/-- The world has changed in nothing that blocks are about. -/
theorem Holds.same {x : Ctx} {ν : Nm} {H : Heap} {w w' : World} (h : Holds x ν H w) (hh : w'.heap = w.heap) (hf : Fix w w') : Holds x ν H w' where
  ok id b hb := (h.ok id b hb).keep (.refl _) (fun _ => by rw [hh])
  sep := h.sep
  mine := h.mine
  ro k c hk := by rw [hh]; exact h.ro k c hk
  rosep := h.rosep
  ronew := h.ronew
  gl := h.gl
  frame k h1 h2 := by rw [hh]; exact h.frame k h1 h2
  size := by rw [hh]; exact h.size
  fix := h.fix.trans hf
  anc := h.anc

/-- A name for a block. -/
def Nm.name (ν : Nm) (b : Nat) : Nm := ⟨ν.nx + 1, fun i => if i = ν.nx then b else ν.blk i, ν.ro⟩
theorem Grows.name (ν : Nm) (b : Nat) : Grows ν (ν.name b) := ⟨Nat.le_succ _, fun i hi => by simp [Nm.name, Nat.ne_of_lt hi], fun _ _ h => h⟩
theorem Nm.name_blk (ν : Nm) (b : Nat) : (ν.name b).blk ν.nx = b := by simp [Nm.name]
theorem Nm.name_ro (ν : Nm) (b : Nat) : (ν.name b).ro = ν.ro := rfl
theorem Nm.name_free (ν : Nm) (b : Nat) : (ν.name b).free.ro = ν.free.ro := rfl
theorem Nm.name_ne (ν : Nm) (b i : Nat) (h : i < ν.nx) : (ν.name b).blk i = ν.blk i := by simp [Nm.name, Nat.ne_of_lt h]

theorem Holds.lt {x : Ctx} {ν : Nm} {H : Heap} {w : World} (h : Holds x ν H w) {id : Nat} {b : Blk} (hb : H.get id = some b) : id < ν.nx := (h.ok id b hb).lt

/-- A new block. -/
theorem Holds.push {x : Ctx} {ν : Nm} {H : Heap} {w w' : World} {o : Obj} {b : Blk} (h : Holds x ν H w) (hh : w'.heap = w.heap.push o) (hf : Fix w w')
    (hb : BlkOK (ν.name w.heap.size) w' ν.nx b) : Holds x (ν.name w.heap.size) ((ν.nx, b) :: H) w' := by
  have hold : ∀ k, k < w.heap.size → w'.heap[k]? = w.heap[k]? := fun k hk => by rw [hh, Array.getElem?_push, if_neg (by omega)]
  have hg := Grows.name ν w.heap.size
  refine ⟨fun id c hc => ?_, fun i c j d hc hd hne he hp => ?_, fun id c hc he => ?_, fun k c hk => ?_, fun id c hc he => ?_, h.ronew, h.gl, fun k h1 h2 => ?_, ?_, h.fix.trans hf, h.anc.trans hg⟩
  · rw [Heap.get_cons] at hc
    split at hc
    · rename_i e; subst e; simp at hc; subst hc; exact hb
    · have h1 := h.ok id c hc
      exact h1.keep hg (fun hp => hold _ (h1.inside hp))
  · rw [Heap.get_cons] at hc hd
    by_cases e1 : ν.nx = i
    · by_cases e2 : ν.nx = j
      · omega
      · simp only [e2, if_false] at hd
        subst e1
        rw [Nm.name_blk, Nm.name_ne _ _ _ (h.lt hd)]
        have := (h.ok j d hd).inside hp
        omega
    · simp only [e1, if_false] at hc
      rw [Nm.name_ne _ _ _ (h.lt hc)]
      have hki := (h.ok i c hc).inside he
      by_cases e2 : ν.nx = j
      · subst e2
        rw [Nm.name_blk]
        omega
      · simp only [e2, if_false] at hd
        rw [Nm.name_ne _ _ _ (h.lt hd)]
        exact h.sep i c j d hc hd hne he hp
  · rw [Heap.get_cons] at hc
    split at hc
    · rename_i e; subst e
      rw [Nm.name_blk]; exact .inl h.size
    · rw [Nm.name_ne _ _ _ (h.lt hc)]; exact h.mine id c hc he
  · obtain ⟨T, fz, h1⟩ := h.ro k c hk
    exact ⟨T, fz, by rw [hold k (ro_lt h hk)]; exact h1⟩
  · rw [Heap.get_cons] at hc
    split at hc
    · rename_i e; subst e
      rw [Nm.name_blk, Nm.name_ro]
      cases hr : ν.ro w.heap.size with
      | none => rfl
      | some c => exact absurd (ro_lt h hr) (Nat.lt_irrefl _)
    · rw [Nm.name_ne _ _ _ (h.lt hc), Nm.name_ro]; exact h.rosep id c hc he
  · rw [hold k (Nat.lt_of_lt_of_le h1 h.size)]; exact h.frame k h1 h2
  · rw [hh]; simp; have := h.size; omega

/-- A block of the call's own has been written. -/
theorem Holds.write {x : Ctx} {ν : Nm} {H : Heap} {w w' : World} {id : Nat} {b b' : Blk} (h : Holds x ν H w) (hb : H.get id = some b) (he : b.real)
    (hw : ∀ k, k ≠ ν.blk id → w'.heap[k]? = w.heap[k]?) (hs : w'.heap.size = w.heap.size) (hf : Fix w w') (hb' : BlkOK ν w' id b') :
    Holds x ν (H.set id b') w' := by
  refine ⟨fun i c hc => ?_, fun i c j d hc hd hne hec hpd => ?_, fun i c hc hec => ?_, fun k c hk => ?_, fun i c hc hec => ?_, h.ronew, h.gl, fun k h1 h2 => ?_, by rw [hs]; exact h.size, h.fix.trans hf, h.anc⟩
  · rw [Heap.get_set] at hc
    split at hc
    · rename_i e; subst e; simp [hb] at hc; subst hc; exact hb'
    · rename_i hne
      exact (h.ok i c hc).keep (.refl _) (fun hp => hw _ (h.sep i c id b hc hb (fun e => hne e.symm) hp he))
  · rw [Heap.get_set] at hc hd
    by_cases e1 : id = i
    · subst e1
      simp only [hne, if_false] at hd
      exact h.sep id b j d hb hd hne he hpd
    · simp only [e1, if_false] at hc
      by_cases e2 : id = j
      · subst e2
        exact h.sep i c id b hc hb hne hec he
      · simp only [e2, if_false] at hd
        exact h.sep i c j d hc hd hne hec hpd
  · rw [Heap.get_set] at hc
    split at hc
    · rename_i e; subst e
      exact h.mine id b hb he
    · exact h.mine i c hc hec
  · obtain ⟨T, fz, h1⟩ := h.ro k c hk
    refine ⟨T, fz, ?_⟩
    rw [hw k (fun e => by rw [e, h.rosep id b hb he] at hk; cases hk)]; exact h1
  · rw [Heap.get_set] at hc
    split at hc
    · rename_i e; subst e
      exact h.rosep id b hb he
    · exact h.rosep i c hc hec
  · have hne : k ≠ ν.blk id := by
      rintro rfl
      rcases h.mine id b hb he with h3 | h3
      · omega
      · exact h2 h3
    rw [hw k hne]; exact h.frame k h1 h2

/-- A call has only made the world grow. -/
theorem Holds.grown {x : Ctx} {ν : Nm} {H : Heap} {w w' : World} (h : Holds x ν H w) (e : Ext w w') : Holds x ν H w' where
  ok id b hb := (h.ok id b hb).keep (.refl _) (fun hp => e.block _ ((h.ok id b hb).inside hp))
  sep := h.sep
  mine := h.mine
  ro k c hk := by
    obtain ⟨T, fz, h1⟩ := h.ro k c hk
    exact ⟨T, fz, by rw [e.block k (ro_lt h hk)]; exact h1⟩
  rosep := h.rosep
  ronew := h.ronew
  gl := h.gl
  frame k h1 h2 := (e.block k (Nat.lt_of_lt_of_le h1 h.size)).trans (h.frame k h1 h2)
  size := Nat.le_trans h.size e.size
  fix := h.fix.trans e.fix
  anc := h.anc

/-- Less may be said of the heap. -/
theorem Holds.less {x : Ctx} {ν : Nm} {H H' : Heap} {w : World} (h : Holds x ν H w) (hh : ∀ i b, H'.get i = some b → H.get i = some b) : Holds x ν H' w where
  ok id b hb := h.ok id b (hh id b hb)
  sep i b j c hb hc := h.sep i b j c (hh i b hb) (hh j c hc)
  mine id b hb := h.mine id b (hh id b hb)
  ro := h.ro
  rosep id b hb := h.rosep id b (hh id b hb)
  ronew := h.ronew
  gl := h.gl
  frame := h.frame
  size := h.size
  fix := h.fix
  anc := h.anc

/-- A name for a block of which nothing is said. -/
theorem Holds.named {x : Ctx} {ν : Nm} {H : Heap} {w : World} (h : Holds x ν H w) (k : Nat) : Holds x (ν.name k) H w where
  ok id b hb := (h.ok id b hb).keep (.name _ _) (fun _ => rfl)
  sep i b j c hb hc := by rw [Nm.name_ne _ _ _ (h.lt hb), Nm.name_ne _ _ _ (h.lt hc)]; exact h.sep i b j c hb hc
  mine id b hb := by rw [Nm.name_ne _ _ _ (h.lt hb)]; exact h.mine id b hb
  ro := h.ro
  rosep id b hb := by rw [Nm.name_ne _ _ _ (h.lt hb)]; exact h.rosep id b hb
  ronew := h.ronew
  gl := h.gl
  frame := h.frame
  size := h.size
  fix := h.fix
  anc := h.anc.trans (.name _ _)

/-- A row without room needs no block. -/
theorem Holds.nameEmpty {x : Ctx} {ν : Nm} {H : Heap} {w : World} {sz : Nat} {T : TypeId} (h : Holds x ν H w) : Holds x (ν.name 0) ((ν.nx, .row sz 0 T []) :: H) w := by
  have h' := h.named 0
  refine ⟨fun id c hc => ?_, fun i c j d hc hd hne he hp => ?_, fun id c hc he => ?_, h.ro, fun id c hc he => ?_, h.ronew, h.gl, h.frame, h.size, h.fix, h'.anc⟩
  · rw [Heap.get_cons] at hc
    split at hc
    · rename_i e; subst e; simp at hc; subst hc
      exact ⟨Nat.lt_succ_self _, Nat.le_refl _, fun x hx => by simp at hx, [], rfl, fun v hv => by simp at hv, fun h => absurd rfl h⟩
    · exact h'.ok id c hc
  · rw [Heap.get_cons] at hc hd
    split at hc
    · simp only [Option.some.injEq] at hc; subst hc; exact absurd rfl he
    · split at hd
      · simp only [Option.some.injEq] at hd; subst hd; exact absurd rfl hp
      · exact h'.sep i c j d hc hd hne he hp
  · rw [Heap.get_cons] at hc
    split at hc
    · simp only [Option.some.injEq] at hc; subst hc; exact absurd rfl he
    · exact h'.mine id c hc he
  · rw [Heap.get_cons] at hc
    split at hc
    · simp only [Option.some.injEq] at hc; subst hc; exact absurd rfl he
    · exact h'.rosep id c hc he

/-- A block of the call's own has been written, and has got a new name. -/
theorem Holds.move {x : Ctx} {ν : Nm} {H : Heap} {w w' : World} {id : Nat} {b b' : Blk} (h : Holds x ν H w) (hb : H.get id = some b) (he : b.real)
    (hw : ∀ k, k ≠ ν.blk id → w'.heap[k]? = w.heap[k]?) (hs : w'.heap.size = w.heap.size) (hf : Fix w w') (hb' : BlkOK (ν.name (ν.blk id)) w' ν.nx b') :
    Holds x (ν.name (ν.blk id)) ((ν.nx, b') :: H.drop id) w' := by
  have g := Grows.name ν (ν.blk id)
  have hdrop : ∀ i c, (H.drop id).get i = some c → id ≠ i ∧ H.get i = some c := by
    intro i c hc
    rw [Heap.get_drop] at hc
    split at hc
    · exact absurd hc (by simp)
    · exact ⟨by assumption, hc⟩
  refine ⟨fun i c hc => ?_, fun i c j d hc hd hne hec hpd => ?_, fun i c hc hec => ?_, fun k c hk => ?_, fun i c hc hec => ?_, h.ronew, h.gl, fun k h1 h2 => ?_, by rw [hs]; exact h.size, h.fix.trans hf, h.anc.trans g⟩
  · rw [Heap.get_cons] at hc
    split at hc
    · rename_i e; subst e; simp at hc; subst hc; exact hb'
    · obtain ⟨hne, hc⟩ := hdrop i c hc
      exact (h.ok i c hc).keep g (fun hp => hw _ (h.sep i c id b hc hb (fun e => hne e.symm) hp he))
  · rw [Heap.get_cons] at hc hd
    by_cases e1 : ν.nx = i
    · by_cases e2 : ν.nx = j
      · omega
      · simp only [e2, if_false] at hd
        obtain ⟨hnj, hd⟩ := hdrop j d hd
        subst e1
        rw [Nm.name_blk, Nm.name_ne _ _ _ (h.lt hd)]
        exact h.sep id b j d hb hd hnj he hpd
    · simp only [e1, if_false] at hc
      obtain ⟨hni, hc⟩ := hdrop i c hc
      rw [Nm.name_ne _ _ _ (h.lt hc)]
      by_cases e2 : ν.nx = j
      · subst e2
        rw [Nm.name_blk]
        exact h.sep i c id b hc hb (fun e => hni e.symm) hec he
      · simp only [e2, if_false] at hd
        obtain ⟨hnj, hd⟩ := hdrop j d hd
        rw [Nm.name_ne _ _ _ (h.lt hd)]
        exact h.sep i c j d hc hd hne hec hpd
  · rw [Heap.get_cons] at hc
    split at hc
    · rename_i e; subst e
      rw [Nm.name_blk]; exact h.mine id b hb he
    · obtain ⟨hni, hc⟩ := hdrop i c hc
      rw [Nm.name_ne _ _ _ (h.lt hc)]; exact h.mine i c hc hec
  · obtain ⟨T, fz, h1⟩ := h.ro k c hk
    refine ⟨T, fz, ?_⟩
    rw [hw k (fun e => by rw [e] at hk; have := h.rosep id b hb he; rw [Nm.name_ro, this] at hk; cases hk)]; exact h1
  · rw [Heap.get_cons] at hc
    split at hc
    · rename_i e; subst e
      rw [Nm.name_blk]; exact h.rosep id b hb he
    · obtain ⟨hni, hc⟩ := hdrop i c hc
      rw [Nm.name_ne _ _ _ (h.lt hc)]; exact h.rosep i c hc hec
  · have hne : k ≠ ν.blk id := by
      rintro rfl
      rcases h.mine id b hb he with h3 | h3
      · omega
      · exact h2 h3
    rw [hw k hne]; exact h.frame k h1 h2
end Go.Sy
namespace Go.Sy
open Go
set_option linter.unusedSimpArgs false
set_option linter.unusedVariables false

def R1OK (Q : SV → Heap → Nat → Prop) : R1 → Prop
  | .ok s H nx => Q s H nx
  | .need p r => p ∧ (p → R1OK Q r)
  | .all k => ∀ i, R1OK Q (k i)
  | .fail _ => False

/-- What is owed of an operation. -/
def OpR (P : Program) (x : Ctx) (ν : Nm) (w : World) (m : Sem Next) (Q : SV → Heap → Nat → Prop) : Prop :=
  ∃ v w' ν' s H', (m.run P w = .ok (.value v) w' ∨ (m.run P w = .ok .skip w' ∧ v = undef)) ∧ Grows ν ν' ∧ Holds x ν' H' w' ∧ Rel ν' s v ∧ Q s H' ν'.nx

section
variable {P : Program} {x : Ctx} {ν : Nm} {H : Heap} {w : World} {Q : SV → Heap → Nat → Prop}

theorem OpR.val {m : Sem Value} {v : Value} {s : SV} (hm : m.run P w = .ok v w) (hH : Holds x ν H w) (hs : Rel ν s v) (hQ : Q s H ν.nx) :
    OpR P x ν w (do pure (.value (← m))) Q :=
  ⟨v, w, ν, s, H, .inl (by simp [hm]), .refl _, hH, hs, hQ⟩

/-- What is owed of an operation that writes nothing: the same value in every world that has only grown. -/
def OpQ (P : Program) (ν : Nm) (w : World) (m : Sem Next) (Q : SV → Prop) : Prop := ∃ v s, (∀ w', Ext w w' → m.run P w' = .ok (.value v) w') ∧ Rel ν s v ∧ Q s
theorem OpQ.toR {m : Sem Next} (h : OpQ P ν w m fun s => Q s H ν.nx) (hH : Holds x ν H w) : OpR P x ν w m Q :=
  let ⟨v, s, h1, h2, h3⟩ := h
  ⟨v, w, ν, s, H, .inl (h1 w (.refl w)), .refl _, hH, h2, h3⟩

theorem run_isAgg {T : TypeId} {b : Bool} (h : tyAgg P T = some b) (w : World) : (isAgg T).run P w = .ok b w := by
  simp only [tyAgg, Option.map_eq_some_iff] at h
  obtain ⟨d, h1, h2⟩ := h
  simp only [isAgg, Sem.run_bind, run_underlying h1, Result.andThen_ok]
  cases d <;> simp only [aggD] at h2 <;> subst h2 <;> rfl
theorem run_sizeOf {T : TypeId} {n : Nat} (h : tySize P T = some n) (w : World) : (sizeOf T).run P w = .ok n w := by
  simp only [tySize, Option.map_eq_some_iff] at h
  obtain ⟨i, h1, h2⟩ := h
  simp [sizeOf, typeInfo, h1, h2]
theorem run_zeroValue {T : TypeId} {cs : List Value} (h : tyZero P T = some cs) (w : World) : ∃ z, z.cells.toList = cs ∧ (zeroValue T).run P w = .ok z w := by
  simp only [tyZero, Option.map_eq_some_iff, Option.bind_eq_some_iff] at h
  obtain ⟨z, ⟨i, h1, h2⟩, h3⟩ := h
  exact ⟨z, h3, by simp [zeroValue, typeInfo, h1, h2]⟩

theorem add_eq (b o j : Nat) : (⟨b, o, none⟩ : Addr).add j = ⟨b, o + j, none⟩ := by unfold Addr.add; split <;> simp_all
theorem cell?_cells {b : Nat} {c : Array Value} {T : TypeId} {fz : Nat × Nat} (h : w.heap[b]? = some (.cells c T fz)) (o : Nat) : w.cell? ⟨b, o, none⟩ = c[o]? := by simp [World.cell?, h]

theorem aggOf_rel {b : Bool} {l : List SV} {s : SV} {cs : List Value} (h : aggOf b l = some s) (hl : RelL ν l cs) :
    (b = true ∧ Rel ν s (.agg cs.toArray)) ∨ (b = false ∧ ∃ y, cs = [y] ∧ Rel ν s y) := by
  cases b with
  | true => simp only [aggOf, Option.some.injEq] at h; subst h; exact .inl ⟨rfl, cs.toArray, rfl, by simpa using hl⟩
  | false =>
    match l, h with
    | [a], h =>
      simp only [aggOf, Option.some.injEq] at h; subst h
      simp only [RelL] at hl
      obtain ⟨y, ys, rfl, h1, rfl⟩ := hl
      exact .inr ⟨rfl, y, rfl, h1⟩

theorem loadVar_sound {T : TypeId} {b : Bool} {blk off : Nat} {cs : List Value} {l : List SV} {s : SV} (hb : tyAgg P T = some b) (hn : tySize P T = some cs.length)
    (hc : ∀ j v, cs[j]? = some v → w.cell? ⟨blk, off + j, none⟩ = some v) (hl : RelL ν l cs) (hs : aggOf b l = some s) :
    ∃ v, (∀ w', Ext w w' → (loadVar T ⟨blk, off, none⟩).run P w' = .ok v w') ∧ Rel ν s v := by
  have hc' : ∀ w', Ext w w' → ∀ j v, cs[j]? = some v → w'.cell? ⟨blk, off + j, none⟩ = some v := by
    intro w' e j v hv
    have h := hc j v hv
    have hlt : blk < w.heap.size := World.block_lt_of_cell? (a := ⟨blk, off + j, none⟩) _ h
    rw [cell?_heap (w := w) (a := ⟨blk, off + j, none⟩) (e.block blk hlt)]; exact h
  rcases aggOf_rel hs hl with ⟨rfl, h1⟩ | ⟨rfl, y, rfl, h1⟩
  · refine ⟨_, fun w' e => ?_, h1⟩
    have := run_loadCells_list (P := P) w' ⟨blk, off, none⟩ cs (fun j v hv => by rw [add_eq]; exact hc' w' e j v hv)
    simp [loadVar, run_isAgg hb, run_sizeOf hn, this]
  · refine ⟨y, fun w' e => ?_, h1⟩
    have := hc' w' e 0 y rfl
    simp only [Nat.add_zero] at this
    simp [loadVar, run_isAgg hb, load, Sem.run, this]

theorem takeN_length {α : Type} : ∀ (n : Nat) {l r : List α}, takeN l n = some r → r.length = n
  | 0, l, r, h => by cases l <;> simp_all [takeN] <;> simp [← h]
  | n + 1, [], r, h => by simp [takeN] at h
  | n + 1, a :: l, r, h => by
    simp only [takeN] at h
    cases ht : takeN l n with
    | none => simp [ht] at h
    | some r' => simp only [ht, Option.some.injEq] at h; subst h; simp [takeN_length n ht]
theorem cut_length {α : Type} : ∀ (o n : Nat) {l r : List α}, cut l o n = some r → r.length = n
  | 0, n, l, r, h => by
    have : takeN l n = some r := by cases l <;> simpa [cut] using h
    exact takeN_length n this
  | o + 1, n, [], r, h => by simp [cut] at h
  | o + 1, n, a :: l, r, h => by simp only [cut] at h; exact cut_length o n h
theorem cut_svs : ∀ (o n : Nat) {l : List Value} {r : List SV}, cut (svs l) o n = some r → o + n ≤ l.length ∧ r = svs ((l.drop o).take n) := by
  intro o n l r h
  obtain ⟨h1, h2⟩ := RelL.cut (ν := nm0) o n (RelL.svs l) h
  refine ⟨h1, ?_⟩
  have key : ∀ (o n : Nat) (l : List Value) (r : List SV), cut (svs l) o n = some r → ∃ q, r = svs q := by
    intro o
    induction o with
    | zero =>
      intro n
      induction n with
      | zero => intro l r h; refine ⟨[], ?_⟩; cases l <;> simp_all [cut, takeN, svs]
      | succ n ih =>
        intro l r h
        cases l with
        | nil => simp [cut, svs, takeN] at h
        | cons a l =>
          simp only [cut, svs, List.map_cons, takeN] at h
          cases ht : takeN (List.map SV.v l) n with
          | none => simp [ht] at h
          | some r' =>
            simp only [ht, Option.some.injEq] at h
            obtain ⟨q, hq⟩ := ih l r' (by cases l <;> simpa [cut, svs] using ht)
            exact ⟨a :: q, by rw [← h, hq]; rfl⟩
    | succ o ih =>
      intro n l r h
      cases l with
      | nil => simp [cut, svs] at h
      | cons a l => simp only [cut, svs, List.map_cons] at h; exact ih n l r h
  obtain ⟨q, rfl⟩ := key o n l r h
  rw [RelL.eq_svs q h2]

theorem cut_rel {o n : Nat} {x l : List SV} {ys : List Value} (h : RelL ν x ys) (hl : cut x o n = some l) :
    ∃ cs : List Value, cs.length = n ∧ RelL ν l cs ∧ ∀ j v, cs[j]? = some v → o + j < ys.length ∧ ys[o + j]? = some v := by
  obtain ⟨h1, h2⟩ := h.cut o n hl
  refine ⟨_, ?_, h2, fun j v hv => ?_⟩
  · simp; omega
  · have hj : j < n := by
      have := (List.getElem?_eq_some_iff.1 hv).1
      simp at this; omega
    rw [List.getElem?_take_of_lt hj, List.getElem?_drop] at hv
    exact ⟨by omega, hv⟩

theorem row_cells {sz e r size : Nat} {xs : List (List SV)} {l : List SV} {ys : List Value} (hr : RelLL ν.free xs ys) (hs : Rows sz xs) (he : e < xs.length) (hl : cut (xs.getD e []) r size = some l) :
    ∃ cs : List Value, cs.length = size ∧ RelL ν l cs ∧ ∀ j v, cs[j]? = some v → e * sz + r + j < ys.length ∧ ys[e * sz + r + j]? = some v := by
  have hy := hr.length hs
  obtain ⟨cs, h1, h2, h3⟩ := cut_rel (hr.elem hs he) hl
  refine ⟨cs, h1, h2.grows (.ofFree ν), fun j v hv => ?_⟩
  obtain ⟨h4, h5⟩ := h3 j v hv
  have h6 : r + j < sz := by simp at h4; omega
  rw [List.getElem?_take_of_lt h6, List.getElem?_drop] at h5
  rw [Nat.add_assoc]
  exact ⟨(List.getElem?_eq_some_iff.1 h5).1, h5⟩

theorem loadIn_sound {T : TypeId} {b : Bool} {size id sz e r : Nat} (hb : tyAgg P T = some b) (hn : tySize P T = some size) (hH : Holds x ν H w)
    (hr : R1OK Q (sLoadIn b size sz e r H ν.nx (H.get id))) :
    ∃ v s, (∀ w', Ext w w' → (loadVar T ⟨ν.blk id, e * sz + r, none⟩).run P w' = .ok v w') ∧ Rel ν s v ∧ Q s H ν.nx := by
  cases hg : H.get id with
  | none => simp [hg, sLoadIn, R1OK] at hr
  | some B =>
    have hB := hH.ok id B hg
    rw [hg] at hr
    cases B with
    | obj o => simp [sLoadIn, R1OK] at hr
    | iter m clock seen => simp [sLoadIn, R1OK] at hr
    | map ag ks f => simp [sLoadIn, R1OK] at hr
    | loop st pend fn nt env params assign body d => simp [sLoadIn, R1OK] at hr
    | own cs T' =>
      obtain ⟨_, c, hc, hrel⟩ := hB
      simp only [sLoadIn] at hr
      cases hcut : cut cs (e * sz + r) size with
      | none => simp [hcut, R1OK] at hr
      | some l =>
        simp only [hcut] at hr
        cases ha : aggOf b l with
        | none => simp [ha, rOf, R1OK] at hr
        | some s =>
          simp only [ha, rOf, R1OK] at hr
          obtain ⟨ds, h1, h2, h3⟩ := cut_rel hrel hcut
          obtain ⟨v, h4, h5⟩ := loadVar_sound (blk := ν.blk id) (off := e * sz + r) (w := w) hb (by rw [h1]; exact hn) (fun j v hv => by
            rw [cell?_cells hc]
            simpa using (h3 j v hv).2) h2 ha
          exact ⟨v, s, h4, h5, hr⟩
    | row s cap T' xs =>
      obtain ⟨_, hnc, hrows, ys, hrel, hones, hrow⟩ := hB
      simp only [sLoadIn] at hr
      split at hr
      · rename_i hsz
        subst hsz
        obtain ⟨he, hr⟩ := hr
        have hr := hr he
        cases hcut : cut (xs.getD e []) r size with
        | none => rw [hcut] at hr; exact hr.elim
        | some l =>
          rw [hcut] at hr
          simp only at hr
          cases ha : aggOf b l with
          | none => simp [ha, rOf, R1OK] at hr
          | some s' =>
            simp only [ha, rOf, R1OK] at hr
            obtain ⟨c, hc, _, hg2⟩ := hrow (by omega)
            obtain ⟨cs, h1, h2, h3⟩ := row_cells hrel hrows he hcut
            obtain ⟨v, h4, h5⟩ := loadVar_sound (blk := ν.blk id) (off := e * s + r) (w := w) hb (by rw [h1]; exact hn) (fun j v hv => by
              obtain ⟨q1, q2⟩ := h3 j v hv
              rw [cell?_cells hc, hg2 _ q1]; exact q2) h2 ha
            exact ⟨v, s', h4, h5, hr⟩
      · split at hr
        case isFalse => exact hr.elim
        rename_i hz
        obtain ⟨rfl, rfl, rfl, rfl⟩ := hz
        obtain ⟨he, hr⟩ := hr
        have hr2 : Q (.arr s xs) H ν.nx := hr he
        clear hr
        have hyl := hrel.length hrows
        by_cases hc0 : cap = 0
        · have hx0 : xs = [] := List.eq_nil_of_length_eq_zero (by omega)
          subst hx0
          have hs0 : size = 0 := by simpa using he
          subst hs0
          refine ⟨.agg #[], .arr s [], fun w' e' => ?_, ⟨#[], rfl, hrows, rfl, by simp⟩, hr2⟩
          have := run_loadCells_list (P := P) w' ⟨ν.blk id, 0, none⟩ [] (by simp)
          simp only [List.length_nil] at this
          simp [loadVar, run_isAgg hb, run_sizeOf hn, this]
        · obtain ⟨c, hc, hcs, hg2⟩ := hrow hc0
          have hlt : ν.blk id < w.heap.size := (Array.getElem?_eq_some_iff.1 hc).1
          have hn' : tySize P T = some ys.length := by rw [hyl, ← he]; exact hn
          refine ⟨.agg ys.toArray, .arr s xs, fun w' e' => ?_, ⟨ys.toArray, rfl, hrows, hrel, hones⟩, hr2⟩
          have := run_loadCells_list (P := P) w' ⟨ν.blk id, 0, none⟩ ys (fun j v hv => by
            have hj := (List.getElem?_eq_some_iff.1 hv).1
            rw [add_eq, cell?_heap (w := w) (e'.block _ hlt), cell?_cells hc, Nat.zero_add, hg2 j hj]; exact hv)
          simp [loadVar, run_isAgg hb, run_sizeOf hn', this]

theorem load_sound {T : TypeId} {s : Option SV} {y : Value} (hH : Holds x ν H w) (hs : ∀ u, s = some u → Rel ν u y) (hr : R1OK Q (sLoad (tyAgg P T) (tySize P T) H ν.nx s)) :
    OpQ P ν w (do pure (.value (← Instr.loadAt T y))) fun s => Q s H ν.nx := by
  unfold sLoad at hr
  split at hr
  · have hs := hs _ rfl
    simp only [Rel] at hs
    obtain ⟨_, rfl⟩ := hs
    cases hb : tyAgg P T with
    | none => simp [hb, R1OK] at hr
    | some b =>
      cases hn : tySize P T with
      | none => simp [hb, hn, R1OK] at hr
      | some n =>
        simp only [hb, hn] at hr
        obtain ⟨v, s, h1, h2, h3⟩ := loadIn_sound hb hn hH hr
        exact ⟨v, s, fun w' e => by simp [Instr.loadAt, Instr.sureAddr, h1 w' e], h2, h3⟩
  · rename_i x r
    have hs := hs _ rfl
    simp only [Rel] at hs
    obtain ⟨b, o, c, ys, rfl, hro, hrel, hseg⟩ := hs
    cases hb : tyAgg P T with
    | none => simp [hb, R1OK] at hr
    | some b' =>
      cases hn : tySize P T with
      | none => simp [hb, hn, R1OK] at hr
      | some n =>
        simp only [hb, hn] at hr
        cases hcut : cut x r n with
        | none => simp [hcut, R1OK] at hr
        | some l =>
          simp only [hcut] at hr
          cases ha : aggOf b' l with
          | none => simp [ha, rOf, R1OK] at hr
          | some s' =>
            simp only [ha, rOf, R1OK] at hr
            obtain ⟨T', fz, hc⟩ := hH.ro b c hro
            obtain ⟨cs, h1, h2, h3⟩ := cut_rel hrel hcut
            obtain ⟨v, h4, h5⟩ := loadVar_sound (blk := b) (off := o + r) (w := w) hb (by rw [h1]; exact hn) (fun j v hv => by
              obtain ⟨q1, q2⟩ := h3 j v hv
              rw [cell?_cells hc, Nat.add_assoc, hseg _ q1]; exact q2) (h2.grows (.ofFree ν)) ha
            exact ⟨v, s', fun w' e => by simp [Instr.loadAt, Instr.sureAddr, h4 w' e], h5, hr⟩
  · exact hr.elim

/- stores -/
theorem splice_get {α : Type} (l vs : List α) (o k : Nat) (h : o + vs.length ≤ l.length) :
    (l.take o ++ vs ++ l.drop (o + vs.length))[k]? = if o ≤ k ∧ k < o + vs.length then vs[k - o]? else l[k]? := by
  have ho : (l.take o).length = o := by simp; omega
  by_cases h1 : k < o
  · rw [List.append_assoc, List.getElem?_append_left (by omega), List.getElem?_take_of_lt h1, if_neg (by omega)]
  · by_cases h2 : k < o + vs.length
    · rw [List.getElem?_append_left (by simp; omega), List.getElem?_append_right (by omega), ho, if_pos ⟨by omega, h2⟩]
    · rw [List.getElem?_append_right (by simp; omega), List.getElem?_drop, if_neg (by omega)]
      congr 1
      simp
      omega
theorem splice_in {α : Type} {ys zs : List α} {a r n : Nat} (h1 : a + n ≤ ys.length) (h2 : r + zs.length ≤ n) (j : Nat) :
    (ys.take a ++ (((ys.drop a).take n).take r ++ zs ++ ((ys.drop a).take n).drop (r + zs.length) ++ ys.drop (a + n)))[j]? = if a + r ≤ j ∧ j < a + r + zs.length then zs[j - (a + r)]? else ys[j]? := by
  have e : ys.take a ++ (((ys.drop a).take n).take r ++ zs ++ ((ys.drop a).take n).drop (r + zs.length) ++ ys.drop (a + n)) = ys.take (a + r) ++ zs ++ ys.drop (a + r + zs.length) := by
    have e1 : ys.take (a + r) = ys.take a ++ ((ys.drop a).take n).take r := by
      rw [List.take_take, Nat.min_eq_left (by omega), List.take_add]
    have e2 : ys.drop (a + r + zs.length) = ((ys.drop a).take n).drop (r + zs.length) ++ ys.drop (a + n) := by
      rw [List.drop_take, List.drop_drop, ← Nat.add_assoc]
      have : ys.drop (a + n) = (ys.drop (a + r + zs.length)).drop (n - (r + zs.length)) := by rw [List.drop_drop]; congr 1; omega
      rw [this, List.take_append_drop]
    rw [e1, e2]; simp
  rw [e, splice_get ys zs (a + r) j (by omega)]
theorem fix_setRow (w : World) (g : Nat) (cs : Array Value) : Fix w (w.setRow g cs) := ⟨rfl, rfl, rfl⟩
theorem setRow_other (w : World) (g k : Nat) (cs : Array Value) (h : k ≠ g) : (w.setRow g cs).heap[k]? = w.heap[k]? := by
  simp only [World.setRow, Array.getElem?_modify]
  rw [if_neg (by omega)]

theorem storeVar_run {T : TypeId} {y : Value} {blk o : Nat} {c : Array Value} {U : TypeId} (hn : tySize P T = some y.cells.size) (hc : w.heap[blk]? = some (.cells c U (0, 0)))
    (ho : o + y.cells.size ≤ c.size) (h1 : ∀ v ∈ y.cells.toList, v.oneCell' = true) :
    (storeVar T ⟨blk, o, none⟩ y).run P w = .ok () (w.setRow blk (c.toList.take o ++ y.cells.toList ++ c.toList.drop (o + y.cells.toList.length)).toArray) := by
  have := run_storeCells_at (P := P) blk o U y.cells.toList 0 c w hc (by simpa using ho) h1
  simp only [Nat.add_zero] at this
  simp [storeVar, run_sizeOf hn, this]

theorem idFree_free : ∀ {s : SV} {y : Value}, idFree s = true → Rel ν s y → Rel ν.free s y
  | .v _, _, _, h => h
  | .rd .., _, _, h => h
  | .rp .., _, _, h => h
  | .ptr .., _, h, _ => by simp [idFree] at h
  | .sl .., _, h, _ => by simp [idFree] at h
  | .arr .., _, h, _ => by simp [idFree] at h
  | .mp .., _, h, _ => by simp [idFree] at h
  | .yl .., _, h, _ => by simp [idFree] at h
  | .fn .., _, h, _ => by simp [idFree] at h
  | .agg .., _, h, _ => by simp [idFree] at h
  | .tup .., _, h, _ => by simp [idFree] at h
theorem idFrees_free : ∀ {s : List SV} {y : List Value}, idFrees s = true → RelL ν s y → RelL ν.free s y
  | [], _, _, h => h
  | a :: s, y, hf, h => by
    simp only [idFrees, Bool.and_eq_true] at hf
    simp only [RelL] at h ⊢
    obtain ⟨y0, ys, h1, h2, h3⟩ := h
    exact ⟨y0, ys, h1, idFree_free hf.1 h2, idFrees_free hf.2 h3⟩

theorem storeIn_sound {T : TypeId} {id sz e r n : Nat} {q : SV} {z : Value} (hH : Holds x ν H w) (hq : Rel ν q z) (hna : notArr q) (hn : tySize P T = some n) (hlen : (cellsS q).length = n)
    (hr : R1OK Q (sStoreIn (cellsS q) id sz e r H ν.nx (H.get id))) : OpR P x ν w (do Instr.storeAt T (.pointer (some ⟨ν.blk id, e * sz + r, none⟩)) z; pure .skip) Q := by
  have hcells := RelL.cellsS hna hq
  have hzl : z.cells.size = n := by have := hcells.length; simp at this; omega
  rw [← hzl] at hn
  cases hg : H.get id with
  | none => simp [hg, sStoreIn, R1OK] at hr
  | some B =>
    have hB := hH.ok id B hg
    rw [hg] at hr
    cases B with
    | obj o => simp [sStoreIn, R1OK] at hr
    | iter m clock seen => simp [sStoreIn, R1OK] at hr
    | map ag ks f => simp [sStoreIn, R1OK] at hr
    | loop st pend fn nt env params assign body d => simp [sStoreIn, R1OK] at hr
    | own old T' =>
      obtain ⟨hid, c, hc, hrel⟩ := hB
      simp only [sStoreIn] at hr
      cases hp : paste old (e * sz + r) (cellsS q) with
      | none => simp [hp, R1OK] at hr
      | some l =>
        simp only [hp, R1OK] at hr
        obtain ⟨hones, hr⟩ := hr
        have hr := hr hones
        obtain ⟨h1, h2⟩ := hrel.paste _ hcells hp
        have hrun := storeVar_run (P := P) (w := w) (o := e * sz + r) hn hc (by simpa using h1) (ones_cells hcells hones)
        refine ⟨undef, w.setRow (ν.blk id) (c.toList.take (e * sz + r) ++ z.cells.toList ++ c.toList.drop (e * sz + r + z.cells.toList.length)).toArray, ν, undefS, _, .inr ⟨?_, rfl⟩, .refl _, ?_, rfl, hr⟩
        · simp only [Instr.storeAt, Instr.sureAddr, Sem.run_bind, Sem.run_pure, Result.andThen_ok, hrun]
        · refine hH.write hg trivial (fun k hk => setRow_other _ _ _ _ hk) (by simp) (fix_setRow _ _ _) ⟨hid, _, setRow_heap w _ _ _ _ _ hc, ?_⟩
          simpa using h2
    | row s cap T' xs =>
      obtain ⟨hid, hnc, hrows, ys, hrel, hys, hrow⟩ := hB
      simp only [sStoreIn] at hr
      split at hr
      case isFalse => exact hr.elim
      rename_i hsz
      subst hsz
      split at hr
      case isFalse => exact hr.elim
      rename_i hfree
      cases hp : paste (xs.getD e []) r (cellsS q) with
      | none => rw [hp] at hr; exact hr.elim
      | some l =>
        rw [hp] at hr
        obtain ⟨⟨he, hones⟩, hr⟩ := hr
        have hr : Q undefS (H.set id (.row s cap T' (xs.set e l))) ν.nx := hr ⟨he, hones⟩
        obtain ⟨c, hc, hcs, hg2⟩ := hrow (by omega)
        have hyl := hrel.length hrows
        have helem := hrel.elem hrows he
        obtain ⟨h1, h2⟩ := helem.paste r (idFrees_free hfree hcells) hp
        have hfe : (xs.getD e []).length = s := hrows _ (getD_mem he)
        have hmul : e * s + s ≤ xs.length * s := by
          have : (e + 1) * s ≤ xs.length * s := Nat.mul_le_mul_right _ (by omega)
          rw [Nat.add_mul] at this; omega
        have hmul2 : xs.length * s ≤ cap * s := Nat.mul_le_mul_right _ hnc
        have helen : ((ys.drop (e * s)).take s).length = s := by simp; omega
        rw [helen] at h1
        have hone := ones_cells hcells hones
        have hbnd : e * s + r + z.cells.size ≤ c.size := by rw [hcs]; simp at h1; omega
        have hrun := storeVar_run (P := P) (w := w) (o := e * s + r) hn hc hbnd hone
        have hll : l.length = s := by
          have := h2.length
          rw [List.length_append, List.length_append, List.length_take (i := r), List.length_drop (i := r + z.cells.toList.length), helen] at this
          omega
        refine ⟨undef, w.setRow (ν.blk id) (c.toList.take (e * s + r) ++ z.cells.toList ++ c.toList.drop (e * s + r + z.cells.toList.length)).toArray, ν, undefS, _, .inr ⟨?_, rfl⟩, .refl _, ?_, rfl, hr⟩
        · simp only [Instr.storeAt, Instr.sureAddr, Sem.run_bind, Sem.run_pure, Result.andThen_ok, hrun]
        · have hset := hrel.set hrows he h2 hll
          refine hH.write hg (by simp only [Blk.real]; omega) (fun k hk => setRow_other _ _ _ _ hk) (by simp) (fix_setRow _ _ _) ⟨hid, by simpa using hnc, hrows.set hll, _, hset, fun v hv => ?_, fun hcap => ⟨_, setRow_heap w _ _ _ _ _ hc, ?_, fun j hj => ?_⟩⟩
          · simp only [List.mem_append] at hv
            rcases hv with hv | ((hv | hv) | hv) | hv
            · exact hys v (List.mem_of_mem_take hv)
            · exact hys v (List.mem_of_mem_drop (List.mem_of_mem_take (List.mem_of_mem_take hv)))
            · exact hone v hv
            · exact hys v (List.mem_of_mem_drop (List.mem_of_mem_take (List.mem_of_mem_drop hv)))
            · exact hys v (List.mem_of_mem_drop hv)
          · simp; rw [hcs] at hbnd ⊢; omega
          · have hzl2 : z.cells.toList.length = z.cells.size := by simp
            have hsp := splice_get c.toList z.cells.toList (e * s + r) j (by rw [hzl2]; simpa using hbnd)
            simp only [List.getElem?_toArray, hsp]
            have hjy : j < ys.length := by
              simp only [List.length_append, List.length_take, List.length_drop, Array.length_toList] at hj h1
              omega
            have := splice_in (ys := ys) (zs := z.cells.toList) (a := e * s) (r := r) (n := s) (by omega) (by simpa using h1) j
            rw [this]
            split
            · rfl
            · rw [← hg2 j hjy]; simp

/-- A part of a part. -/
theorem store_sound {T : TypeId} {s u : Option SV} {y z : Value} (hH : Holds x ν H w) (hs : ∀ q, s = some q → Rel ν q y) (hu : ∀ q, u = some q → Rel ν q z)
    (hr : R1OK Q (sStore (tySize P T) H ν.nx s u)) : OpR P x ν w (do Instr.storeAt T y z; pure .skip) Q := by
  unfold sStore at hr
  split at hr
  case h_2 => exact hr.elim
  rename_i id sz e r q
  have hs := hs _ rfl
  have hq := hu _ rfl
  simp only [Rel] at hs
  obtain ⟨_, rfl⟩ := hs
  cases hn : tySize P T with
  | none => rw [hn] at hr; exact hr.elim
  | some n =>
    rw [hn] at hr
    simp only at hr
    split at hr
    · rename_i s ys
      split at hr
      case isFalse => exact hr.elim
      rename_i hz
      obtain ⟨rfl, rfl, rfl⟩ := hz
      unfold sStoreArr at hr
      split at hr
      case h_2 => exact hr.elim
      rename_i s' cap T' xs hg
      split at hr
      case isFalse => exact hr.elim
      rename_i hss
      subst hss
      obtain ⟨⟨h1, h2, h3⟩, hr⟩ := hr
      have hr : Q undefS (H.set id (.row s cap T' ys)) ν.nx := hr ⟨h1, h2, h3⟩
      obtain ⟨hid, hnc, hrows, zs, hrel, hzs, hrow⟩ := hH.ok id _ hg
      obtain ⟨c, hc, hcs, hg2⟩ := hrow h3
      simp only [Rel] at hq
      obtain ⟨cz, rfl, k1, k2, k3⟩ := hq
      have hcz : cz.toList.length = cap * s := by rw [k2.length k1, h1]
      have hcz' : cz.size = cap * s := by simpa using hcz
      have hcells : (Value.agg cz).cells = cz := rfl
      have hrun := storeVar_run (P := P) (w := w) (o := 0) (T := T) (y := .agg cz) (by rw [hcells, hcz', ← h2]; exact hn) hc (by rw [hcells, hcz', hcs]; omega) (by rw [hcells]; exact k3)
      refine ⟨undef, w.setRow (ν.blk id) (c.toList.take 0 ++ (Value.agg cz).cells.toList ++ c.toList.drop (0 + (Value.agg cz).cells.toList.length)).toArray, ν, undefS, _, .inr ⟨?_, rfl⟩, .refl _, ?_, rfl, hr⟩
      · simp only [Instr.storeAt, Instr.sureAddr, Sem.run_bind, Sem.run_pure, Result.andThen_ok, hrun, Nat.zero_mul, Nat.add_zero]
      · rw [hcells]
        have e1 : (c.toList.take 0 ++ cz.toList ++ c.toList.drop (0 + cz.toList.length)).toArray = cz := by
          apply Array.ext'
          rw [List.drop_of_length_le (by simp; omega)]; simp
        rw [e1]
        exact hH.write hg h3 (fun k hk => setRow_other _ _ _ _ hk) (by simp) (fix_setRow _ _ _) ⟨hid, by omega, k1, cz.toList, k2, k3, fun _ => ⟨cz, setRow_heap w _ _ _ _ _ hc, hcz', fun j hj => by simp⟩⟩
    · rename_i hna
      split at hr
      case isFalse => exact hr.elim
      rename_i hlen
      refine storeIn_sound hH hq ?_ hn hlen hr
      unfold notArr
      split
      · rename_i s ys; exact (hna s ys rfl).elim
      · trivial

/- new blocks -/
theorem newRow_sound {cells : Array Value} {l : List SV} {T : TypeId} {s : SV} (hH : Holds x ν H w) (hl : RelL ν l cells.toList) (hQ : Q s ((ν.nx, .own l T) :: H) (ν.nx + 1))
    {m : Sem Next} {v : Value} (hm : m.run P w = .ok (.value v) { w with heap := w.heap.push (.cells cells T) }) (hs : Rel (ν.name w.heap.size) s v) : OpR P x ν w m Q := by
  refine ⟨v, _, ν.name w.heap.size, s, _, .inl hm, Grows.name _ _, hH.push (b := .own l T) (o := .cells cells T) rfl ⟨rfl, rfl, rfl⟩ ?_, hs, hQ⟩
  exact ⟨Nat.lt_succ_self _, cells, by rw [Nm.name_blk]; simp, hl.grows (Grows.name _ _)⟩
theorem rel_name_ptr (w : World) : Rel (ν.name w.heap.size) (.ptr ν.nx 0 0 0) (.pointer (some ⟨w.heap.size, 0, none⟩)) := by
  simp only [Rel, Nm.name_blk]
  exact ⟨Nat.lt_succ_self _, by simp⟩
/-- A new block of rows. -/
theorem Holds.pushRow {w' : World} {sz C : Nat} {e : TypeId} {xs : List (List SV)} {ys zs : List Value} {cells : Array Value} (h : Holds x ν H w) (hrows : Rows sz xs) (hrel : RelLL ν.free xs ys) (hones : ∀ v ∈ ys, v.oneCell' = true) (hC : xs.length ≤ C)
    (hc : cells.toList = ys ++ zs) (hzs : zs.length = (C - xs.length) * sz) (hh : w'.heap = w.heap.push (.cells cells e)) (hf : Fix w w') :
    Holds x (ν.name w.heap.size) ((ν.nx, .row sz C e xs) :: H) w' := by
  have hyl := hrel.length hrows
  refine h.push hh hf ⟨Nat.lt_succ_self _, hC, hrows, ys, hrel.grows (Grows.name _ _).free, hones, fun _ => ⟨cells, ?_, ?_, fun j hj => ?_⟩⟩
  · rw [Nm.name_blk, hh]; simp
  · rw [← Array.length_toList, hc, List.length_append, hyl, hzs, ← Nat.add_mul]; congr 1; omega
  · rw [← Array.getElem?_toList, hc, List.getElem?_append_left hj]
theorem alloc0_sound {T : TypeId} (hH : Holds x ν H w) (hr : R1OK Q (sAlloc0 (tyZero P T) T H ν.nx)) : OpR P x ν w (do pure (.value (← Instr.alloc T true (.tuple #[])))) Q := by
  cases hz : tyZero P T with
  | none => simp [hz, sAlloc0, R1OK] at hr
  | some cs =>
    simp only [hz, sAlloc0, rNew, R1OK] at hr
    obtain ⟨z, h1, h2⟩ := run_zeroValue hz w
    refine newRow_sound (cells := z.cells) hH (by rw [h1]; exact RelL.svs cs) hr ?_ (rel_name_ptr w)
    simp [Instr.alloc, h2, newVar, newRow]
theorem sameZ_eq {a b : Value} (h : sameZ a b = true) : a = b := by
  unfold sameZ at h
  split at h
  · simp only [Bool.and_eq_true, decide_eq_true_eq] at h; rw [h.1, h.2]
  · simp only [beq_iff_eq] at h; rw [h]
  · rfl
  · rfl
  · rename_i a b
    simp only [Bool.and_eq_true, decide_eq_true_eq] at h
    have h1 : a.data = b.data := by rw [Array.eq_empty_of_size_eq_zero h.1, Array.eq_empty_of_size_eq_zero h.2]
    cases a; cases b; simp only at h1; rw [h1]
  · exact absurd h (by simp)
theorem sameZs_eq : ∀ {l m : List Value}, sameZs l m = true → l = m
  | [], [], _ => rfl
  | a :: l, b :: m, h => by
    simp only [sameZs, Bool.and_eq_true] at h
    rw [sameZ_eq h.1, sameZs_eq h.2]
  | [], _ :: _, h => by simp [sameZs] at h
  | _ :: _, [], h => by simp [sameZs] at h
theorem relLL_replicate (zs : List Value) : ∀ n, RelLL ν (List.replicate n (svs zs)) (repeatL zs n)
  | 0 => rfl
  | n + 1 => by
    simp only [List.replicate_succ, RelLL, repeatL]
    exact ⟨zs, _, rfl, RelL.svs zs, relLL_replicate zs n⟩
theorem repeatL_mem {α : Type} {l : List α} {a : α} : ∀ {n : Nat}, a ∈ repeatL l n → a ∈ l
  | 0, h => by simp [repeatL] at h
  | n + 1, h => by
    simp only [repeatL, List.mem_append] at h
    exact h.elim id repeatL_mem
theorem rows_replicate {sz : Nat} {zs : List Value} (h : zs.length = sz) (n : Nat) : Rows sz (List.replicate n (svs zs)) := fun y hy => by
  rw [(List.mem_replicate.1 hy).2]; simpa [svs] using h
theorem tyArr_facts {T : TypeId} {n sz : Nat} {zs : List Value} (ha : tyArr P T = some (n, sz, zs)) : ∃ e, P.underlying T = some (.array n e) ∧ tySize P e = some sz ∧ zs.length = sz ∧ zs.all (·.oneCell') = true ∧ tyZero P T = some (repeatL zs n) := by
  unfold tyArr at ha
  split at ha
  case h_2 => exact absurd ha (by simp)
  split at ha
  case h_2 => exact absurd ha (by simp)
  split at ha
  case isFalse => exact absurd ha (by simp)
  rename_i n' e hu _ _ _ sz' zs' z h1 h2 h3 hcond
  simp only [Option.some.injEq, Prod.mk.injEq] at ha
  obtain ⟨rfl, rfl, rfl⟩ := ha
  obtain ⟨c1, c2, c3, c4, c5⟩ := hcond
  exact ⟨e, hu, h1, c3, c4, by rw [h3, sameZs_eq c5]⟩
theorem alloc_sound {T : TypeId} (hH : Holds x ν H w) (hr : R1OK Q (sAlloc (tyArr P T) (tyZero P T) T H ν.nx)) : OpR P x ν w (do pure (.value (← Instr.alloc T true (.tuple #[])))) Q := by
  unfold sAlloc at hr
  split at hr
  case h_2 => exact alloc0_sound hH hr
  rename_i n sz zs ha
  have hr : Q (.ptr ν.nx 0 0 0) ((ν.nx, .row sz n T (List.replicate n (svs zs))) :: H) (ν.nx + 1) := hr
  obtain ⟨e, hu, h1, c3, c4, h3⟩ := tyArr_facts ha
  obtain ⟨zv, k1, k2⟩ := run_zeroValue h3 w
  have hrun : (do pure (.value (← Instr.alloc T true (.tuple #[]))) : Sem Next).run P w = .ok (.value (.pointer (some ⟨w.heap.size, 0, none⟩))) { w with heap := w.heap.push (.cells zv.cells T) } := by
    simp [Instr.alloc, k2, newVar, newRow]
  refine ⟨_, _, ν.name w.heap.size, .ptr ν.nx 0 0 0, _, .inl hrun, Grows.name _ _, ?_, rel_name_ptr w, hr⟩
  refine hH.pushRow (zs := []) (ys := repeatL zs n) (rows_replicate c3 n) (relLL_replicate _ _) (fun v hv => (List.all_eq_true.1 c4) v (repeatL_mem hv)) (by simp) (by rw [k1]; simp) (by simp) rfl ⟨rfl, rfl, rfl⟩
theorem box_sound {T : TypeId} {s : Option SV} {y : Value} (hH : Holds x ν H w) (hs : ∀ q, s = some q → Rel ν q y) (hr : R1OK Q (sBox (tyArr P T) s T H ν.nx)) :
    OpR P x ν w (do pure (.value (← Instr.box T y))) Q := by
  unfold sBox at hr
  split at hr
  case h_2 => exact hr.elim
  rename_i q
  split at hr
  case isTrue =>
    unfold sBoxA at hr
    split at hr
    case h_2 => exact hr.elim
    rename_i sz xs _
    split at hr
    case h_2 => exact hr.elim
    rename_i n sz' zs ha
    split at hr
    case isFalse => exact hr.elim
    obtain ⟨hn, hr⟩ := hr
    have hr : Q (.ptr ν.nx 0 0 0) ((ν.nx, .row sz n T xs) :: H) (ν.nx + 1) := hr hn
    have hy := hs _ rfl
    simp only [Rel] at hy
    obtain ⟨c, rfl, hrows, hrel, hones⟩ := hy
    have hrun : (do pure (.value (← Instr.box T (.agg c))) : Sem Next).run P w = .ok (.value (.pointer (some ⟨w.heap.size, 0, none⟩))) { w with heap := w.heap.push (.cells c T) } := by
      simp [Instr.box, newVar, newRow, Value.cells]
    refine ⟨_, _, ν.name w.heap.size, .ptr ν.nx 0 0 0, _, .inl hrun, Grows.name _ _, ?_, rel_name_ptr w, hr⟩
    exact hH.pushRow (zs := []) (ys := c.toList) hrows hrel hones (by omega) (by simp) (by rw [hn]; simp) rfl ⟨rfl, rfl, rfl⟩
  rename_i hna
  refine newRow_sound (cells := y.cells) hH (RelL.cellsS ?_ (hs q rfl)) hr ?_ (rel_name_ptr w)
  · cases q <;> first | trivial | (exact (hna rfl).elim)
  · simp [Instr.box, newVar, newRow]
end
end Go.Sy

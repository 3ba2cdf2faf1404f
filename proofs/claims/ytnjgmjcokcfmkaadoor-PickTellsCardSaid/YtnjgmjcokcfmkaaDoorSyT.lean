/- Blocks lent to a call, to be read; blocks that nobody writes from now on. No condition. -/
import Derived.Test.YtnjgmjcokcfmkaaDoorSyH
namespace Go.Sy
open Go
set_option linter.unusedSimpArgs false
set_option linter.unusedVariables false

/- what blocks say while they are lent -/
def lendSl (b : Option Blk) (id sz off len cap : Nat) : SV := match b with
  | some (.row s _ _ xs) => if s = sz then .rd sz ((xs.drop off).take len) else .sl id sz off len cap
  | _ => .sl id sz off len cap
def lendSlP (b : Option Blk) (sz off len cap : Nat) : Prop := match b with
  | some (.row s c _ xs) => if s = sz then off + len ≤ xs.length ∧ len ≤ cap ∧ (0 < cap → c ≠ 0) else True
  | _ => True
mutual
def lendS (H : Heap) (V : List Nat) : SV → SV
  | .sl id sz off len cap => if id ∈ V then lendSl (H.get id) id sz off len cap else .sl id sz off len cap
  | .fn f a b => .fn f (lendL H V a) (lendL H V b)
  | .agg l => .agg (lendL H V l)
  | .tup l => .tup (lendL H V l)
  | .v x => .v x
  | .ptr id sz e r => .ptr id sz e r
  | .rd sz xs => .rd sz xs
  | .rp x r => .rp x r
  | .arr sz xs => .arr sz xs
  | .mp id => .mp id
  | .yl id => .yl id
def lendL (H : Heap) (V : List Nat) : List SV → List SV
  | [] => []
  | x :: l => lendS H V x :: lendL H V l
end
mutual
def lendP (H : Heap) (V : List Nat) : SV → Prop
  | .sl id sz off len cap => if id ∈ V then lendSlP (H.get id) sz off len cap else True
  | .fn _ a b => lendPL H V a ∧ lendPL H V b
  | .agg l => lendPL H V l
  | .tup l => lendPL H V l
  | .v _ | .ptr .. | .rd .. | .rp .. | .arr .. | .mp _ | .yl _ => True
def lendPL (H : Heap) (V : List Nat) : List SV → Prop
  | [] => True
  | x :: l => lendP H V x ∧ lendPL H V l
end

/-- Names for which more blocks are ones that nobody writes. -/
def Nm.lend (ν : Nm) (L : Nat → Option (Array Value)) : Nm := ⟨ν.nx, ν.blk, fun k => match ν.ro k with | some c => some c | none => L k⟩
theorem Grows.lend (ν : Nm) (L : Nat → Option (Array Value)) : Grows ν (ν.lend L) := ⟨Nat.le_refl _, fun _ _ => rfl, fun k c h => by simp [Nm.lend, h]⟩

/-- The blocks of rows that are lent. -/
def lentBy (ν : Nm) (H : Heap) (w : World) (V : List Nat) (L : Nat → Option (Array Value)) : Prop :=
  ∀ k c, L k = some c ↔ (∃ id s cap T xs, id ∈ V ∧ H.get id = some (.row s cap T xs) ∧ cap ≠ 0 ∧ ν.blk id = k) ∧ ∃ T fz, w.heap[k]? = some (.cells c T fz)
theorem lentBy_ex (ν : Nm) (H : Heap) (w : World) (V : List Nat) : ∃ L, lentBy ν H w V L := by
  refine ⟨fun k => @ite _ (∃ id s cap T xs, id ∈ V ∧ H.get id = some (.row s cap T xs) ∧ cap ≠ 0 ∧ ν.blk id = k) (Classical.propDecidable _) (match w.heap[k]? with | some (.cells c _ _) => some c | _ => none) none, fun k c => ?_⟩
  by_cases hp : ∃ id s cap T xs, id ∈ V ∧ H.get id = some (.row s cap T xs) ∧ cap ≠ 0 ∧ ν.blk id = k
  · simp only [hp, if_true, true_and]
    cases hk : w.heap[k]? with
    | none => simp
    | some o => cases o <;> simp
  · simp only [hp, if_false, false_and, iff_false]
    simp

mutual
theorem lendS_rel {x : Ctx} {ν : Nm} {H : Heap} {w : World} {V : List Nat} {L : Nat → Option (Array Value)} (hH : Holds x ν H w) (hL : lentBy ν H w V L) : ∀ (s : SV) (y : Value), lendP H V s → Rel ν s y → Rel (ν.lend L) (lendS H V s) y
  | .v _, y, _, h => h.grows (.lend ν L)
  | .ptr .., y, _, h => h.grows (.lend ν L)
  | .rd .., y, _, h => h.grows (.lend ν L)
  | .rp .., y, _, h => h.grows (.lend ν L)
  | .arr .., y, _, h => h.grows (.lend ν L)
  | .mp _, y, _, h => h.grows (.lend ν L)
  | .yl _, y, _, h => h.grows (.lend ν L)
  | .fn f a b, y, hp, h => by
    simp only [lendP] at hp
    simp only [Rel, lendS] at h ⊢
    obtain ⟨fs, cs, h1, h2, h3⟩ := h
    exact ⟨fs, cs, h1, lendL_rel hH hL _ _ hp.1 h2, lendL_rel hH hL _ _ hp.2 h3⟩
  | .agg l, y, hp, h => by
    simp only [lendP] at hp
    simp only [Rel, lendS] at h ⊢
    obtain ⟨c, h1, h2⟩ := h
    exact ⟨c, h1, lendL_rel hH hL _ _ hp h2⟩
  | .tup l, y, hp, h => by
    simp only [lendP] at hp
    simp only [Rel, lendS] at h ⊢
    obtain ⟨c, h1, h2⟩ := h
    exact ⟨c, h1, lendL_rel hH hL _ _ hp h2⟩
  | .sl id sz off len cap, y, hp, h => by
    simp only [lendS]
    split
    case isFalse => exact h.grows (.lend ν L)
    rename_i hid
    simp only [lendP, hid, if_true] at hp
    unfold lendSl
    unfold lendSlP at hp
    split
    case h_2 => exact h.grows (.lend ν L)
    rename_i s c T xs hb
    rw [hb] at hp
    simp only at hp
    split
    case isFalse => exact h.grows (.lend ν L)
    rename_i hs
    subst hs
    simp only [if_true] at hp
    obtain ⟨p1, p2, p3⟩ := hp
    simp only [Rel] at h ⊢
    obtain ⟨_, a, rfl, ha⟩ := h
    obtain ⟨_, hnc, hrows, ys, hrel, hones, hrow⟩ := hH.ok id _ hb
    have hlen : ((xs.drop off).take len).length = len := by simp; omega
    have hyl := hrel.length hrows
    have hle : off * s + len * s ≤ ys.length := by rw [hyl, ← Nat.add_mul]; exact Nat.mul_le_mul_right _ p1
    refine ⟨a, cap, (ys.drop (off * s)).take (len * s), by rw [hlen], by rw [hlen]; exact p2, (hrows.drop _).take _, ((hrel.drop hrows _).take (hrows.drop _) _).grows (Grows.lend ν L).free, fun v hv => hones v (List.mem_of_mem_drop (List.mem_of_mem_take hv)), fun hne => ?_⟩
    rw [hlen] at hne
    have hcap : 0 < cap := by omega
    have hc0 := p3 hcap
    obtain ⟨cc, h1, h2, h3⟩ := hrow hc0
    refine ⟨ν.blk id, off * s, cc, ha hcap, ?_, fun j hj => ?_⟩
    · simp only [Nm.lend]
      rw [hH.rosep id _ hb hc0]
      exact (hL _ _).2 ⟨⟨id, s, c, T, xs, hid, hb, hc0, rfl⟩, T, _, h1⟩
    · simp only [List.length_take, List.length_drop] at hj
      rw [List.getElem?_take_of_lt (by omega), List.getElem?_drop, h3 _ (by omega)]
theorem lendL_rel {x : Ctx} {ν : Nm} {H : Heap} {w : World} {V : List Nat} {L : Nat → Option (Array Value)} (hH : Holds x ν H w) (hL : lentBy ν H w V L) : ∀ (s : List SV) (y : List Value), lendPL H V s → RelL ν s y → RelL (ν.lend L) (lendL H V s) y
  | [], y, _, h => by simpa [RelL, lendL] using h
  | a :: l, y, hp, h => by
    simp only [lendPL] at hp
    simp only [RelL, lendL] at h ⊢
    obtain ⟨y0, ys, h1, h2, h3⟩ := h
    exact ⟨y0, ys, h1, lendS_rel hH hL _ _ hp.1 h2, lendL_rel hH hL _ _ hp.2 h3⟩
end

/-- Nobody writes these blocks from now on. -/
theorem Holds.freeze {x : Ctx} {ν : Nm} {H H' : Heap} {w : World} {V : List Nat} {L : Nat → Option (Array Value)} (hH : Holds x ν H w) (hL : lentBy ν H w V L) (hh : ∀ i b, H'.get i = some b → i ∉ V ∧ H.get i = some b) : Holds x (ν.lend L) H' w where
  ok i b hb := (hH.ok i b (hh i b hb).2).keep (.lend ν L) (fun _ => rfl)
  sep i b j c hb hc := hH.sep i b j c (hh i b hb).2 (hh j c hc).2
  mine i b hb := hH.mine i b (hh i b hb).2
  ro k c hk := by
    simp only [Nm.lend] at hk
    cases hr : ν.ro k with
    | some d => rw [hr] at hk; simp only [Option.some.injEq] at hk; subst hk; exact hH.ro k d hr
    | none => rw [hr] at hk; exact ((hL k c).1 hk).2
  rosep i b hb he := by
    obtain ⟨hiV, hb⟩ := hh i b hb
    show (match ν.ro (ν.blk i) with | some c => some c | none => L (ν.blk i)) = none
    rw [hH.rosep i b hb he]
    show L (ν.blk i) = none
    cases hl : L (ν.blk i) with
    | none => rfl
    | some c =>
      obtain ⟨⟨id, s, cap, T, xs, h1, h2, h3, h4⟩, _⟩ := (hL _ c).1 hl
      exact absurd h4 (hH.sep id _ i b h2 hb (fun e => hiV (e ▸ h1)) h3 he)
  ronew k c hk := by
    simp only [Nm.lend] at hk
    cases hr : ν.ro k with
    | some d => rw [hr] at hk; simp only [Option.some.injEq] at hk; subst hk; exact hH.ronew k d hr
    | none =>
      rw [hr] at hk
      obtain ⟨⟨id, s, cap, T, xs, h1, h2, h3, rfl⟩, _⟩ := (hL k c).1 hk
      exact .inr (hH.mine id _ h2 h3)
  gl g l h := (Grows.lend ν L).2.2 _ _ (hH.gl g l h)
  frame := hH.frame
  size := hH.size
  fix := hH.fix
  anc := hH.anc.trans (.lend ν L)

/-- From now on a slot's slices are ones that nobody writes. -/
theorem Sat.frz {κ : Kx} {x : Ctx} {k : List Item} {env : Env} {H : Heap} {nx : Nat} {dfs : List Nat} (V : List Nat) (t : Nat) (s : SV) (ht : env.get t = some s) (hp : lendP H V s)
    (h : Sat κ x ⟨k, (t, lendS H V s) :: env, without V H, nx, dfs⟩) : Sat κ x ⟨k, env, H, nx, dfs⟩ := by
  intro ν w a hn hH hE hD
  obtain ⟨L, hL⟩ := lentBy_ex ν H w V
  obtain ⟨y, h1, h2⟩ := hE.2 t s ht
  exact h (ν.lend L) w a hn (hH.freeze hL fun i b hb => without_get hb) ((hE.grows (.lend ν L)).know h1 (lendS_rel hH hL _ _ hp h2)) (hD.grows (.lend ν L))

/-- At a function's end: what it hands back is written by nobody from now on. -/
theorem Post.frz {m : Nat} {Q : SV → Heap → Nat → Prop} {s : SV} {H : Heap} {nx : Nat} (V : List Nat) (hp : lendP H V s) (h : Post m Q (lendS H V s) (without V H) nx) : Post m Q s H nx := by
  intro x ν ν' w v hx hm hn hg hH hv
  obtain ⟨L, hL⟩ := lentBy_ex ν' H w V
  exact h x ν (ν'.lend L) w v hx hm hn (hg.trans (.lend ν' L)) (hH.freeze hL fun i b hb => without_get hb) (lendS_rel hH hL _ _ hp hv)

/- results that hang on no slice that nobody writes -/
mutual
def SV.plain : SV → Prop
  | .v _ | .ptr .. | .sl .. | .mp _ | .yl _ => True
  | .rd .. | .rp .. | .arr .. => False
  | .fn _ a b => SV.plainL a ∧ SV.plainL b
  | .agg l => SV.plainL l
  | .tup l => SV.plainL l
def SV.plainL : List SV → Prop
  | [] => True
  | x :: l => SV.plain x ∧ SV.plainL l
end
mutual
theorem Rel.plain {ν ν' : Nm} (h1 : ν'.nx = ν.nx) (h2 : ν'.blk = ν.blk) : ∀ (s : SV) (y : Value), s.plain → Rel ν s y → Rel ν' s y
  | .v _, y, _, h => h
  | .ptr .., y, _, h => by simp only [Rel] at h ⊢; rw [h1, h2]; exact h
  | .sl .., y, _, h => by simp only [Rel] at h ⊢; rw [h1, h2]; exact h
  | .mp _, y, _, h => by simp only [Rel] at h ⊢; rw [h1, h2]; exact h
  | .yl _, y, _, h => by simp only [Rel] at h ⊢; rw [h1, h2]; exact h
  | .fn f a b, y, hp, h => by
    simp only [Rel] at h ⊢
    obtain ⟨fs, cs, q1, q2, q3⟩ := h
    exact ⟨fs, cs, q1, RelL.plain h1 h2 _ _ hp.1 q2, RelL.plain h1 h2 _ _ hp.2 q3⟩
  | .agg l, y, hp, h => by
    simp only [Rel] at h ⊢
    obtain ⟨c, q1, q2⟩ := h
    exact ⟨c, q1, RelL.plain h1 h2 _ _ hp q2⟩
  | .tup l, y, hp, h => by
    simp only [Rel] at h ⊢
    obtain ⟨c, q1, q2⟩ := h
    exact ⟨c, q1, RelL.plain h1 h2 _ _ hp q2⟩
theorem RelL.plain {ν ν' : Nm} (h1 : ν'.nx = ν.nx) (h2 : ν'.blk = ν.blk) : ∀ (s : List SV) (y : List Value), SV.plainL s → RelL ν s y → RelL ν' s y
  | [], y, _, h => by simpa [RelL] using h
  | x :: l, y, hp, h => by
    simp only [RelL] at h ⊢
    obtain ⟨y0, ys, q1, q2, q3⟩ := h
    exact ⟨y0, ys, q1, Rel.plain h1 h2 _ _ hp.1 q2, RelL.plain h1 h2 _ _ hp.2 q3⟩
end
def plainRows (xs : List (List SV)) : Prop := ∀ x ∈ xs, SV.plainL x
theorem RelLL.plain {ν ν' : Nm} (h1 : ν'.nx = ν.nx) (h2 : ν'.blk = ν.blk) : ∀ {xs : List (List SV)} {ys : List Value}, plainRows xs → RelLL ν xs ys → RelLL ν' xs ys
  | [], _, _, h => h
  | x :: xs, ys, hp, h => by
    simp only [RelLL] at h ⊢
    obtain ⟨y, ys', q1, q2, q3⟩ := h
    exact ⟨y, ys', q1, RelL.plain h1 h2 _ _ (hp x (by simp)) q2, RelLL.plain h1 h2 (fun z hz => hp z (by simp [hz])) q3⟩
def Blk.plain : Blk → Prop
  | .own cells _ => SV.plainL cells
  | .row _ _ _ xs => plainRows xs
  | .map _ _ f => ∀ ns s, f ns = some s → s.plain
  | .loop .. => False
  | .obj _ => True
  | .iter .. => True
theorem BlkOK.plain {ν ν' : Nm} {w : World} {id : Nat} {b : Blk} (h1 : ν'.nx = ν.nx) (h2 : ν'.blk = ν.blk) (hp : b.plain) (h : BlkOK ν w id b) : BlkOK ν' w id b := by
  have hf : ν'.free.nx = ν.free.nx := rfl
  have hb : ν'.free.blk = ν.free.blk := h2
  cases b with
  | own cells T =>
    obtain ⟨q0, c, q1, q2⟩ := h
    exact ⟨by rw [h1]; exact q0, c, by rw [h2]; exact q1, q2.plain h1 h2 _ _ hp⟩
  | row sz cap T xs =>
    obtain ⟨q0, q1, q2, ys, q3, q4, q5⟩ := h
    exact ⟨by rw [h1]; exact q0, q1, q2, ys, q3.plain hf hb hp, q4, by rw [h2]; exact q5⟩
  | map ag ks f =>
    obtain ⟨q0, es, clock, q1, q2⟩ := h
    exact ⟨by rw [h1]; exact q0, es, clock, by rw [h2]; exact q1, ⟨q2.one, fun e he => let ⟨ns, s, r1, r2, r3, r4⟩ := q2.in_ e he; ⟨ns, s, r1, r2, r3, Rel.plain hf hb _ _ (hp ns s r3) r4⟩, q2.out, q2.nd, q2.bd, q2.bn⟩⟩
  | loop => exact hp.elim
  | obj o =>
    obtain ⟨q0, q1, q2⟩ := h
    exact ⟨by rw [h1]; exact q0, q1, by rw [h2]; exact q2⟩
  | iter m clock seen =>
    obtain ⟨q0, q1, q2⟩ := h
    exact ⟨by rw [h1]; exact q0, by rw [h1]; exact q1, by rw [h2]; exact q2⟩

/-- What was lent is given back. -/
theorem Holds.unlend {gl : Gl} {S : Nat → Prop} {ν0 ν' : Nm} {H' : Heap} {w w' : World} {L : Nat → Option (Array Value)} (h : Holds ⟨w, S, ν0.lend L, gl⟩ ν' H' w') (hgl : GlOK gl ν0) (hp : ∀ i b, H'.get i = some b → b.plain) :
    ∃ ν'', ν''.nx = ν'.nx ∧ ν''.blk = ν'.blk ∧ Holds ⟨w, S, ν0, gl⟩ ν'' H' w' := by
  obtain ⟨rr, hrr⟩ : ∃ rr : Nat → Option (Array Value), ∀ k, rr k = @ite _ (ν0.ro k = none ∧ L k ≠ none) (Classical.propDecidable _) none (ν'.ro k) := ⟨_, fun _ => rfl⟩
  have hsub : ∀ k c, rr k = some c → ν'.ro k = some c := by
    intro k c hk
    rw [hrr] at hk
    split at hk
    · cases hk
    · exact hk
  have hkeep : ∀ k c, ν0.ro k = some c → rr k = some c := by
    intro k c hk
    rw [hrr, if_neg (by rw [hk]; simp)]
    exact h.anc.2.2 k c ((Grows.lend ν0 L).2.2 k c hk)
  refine ⟨⟨ν'.nx, ν'.blk, rr⟩, rfl, rfl, ⟨fun i b hb => BlkOK.plain (ν := ν') (ν' := ⟨ν'.nx, ν'.blk, rr⟩) rfl rfl (hp i b hb) (h.ok i b hb), h.sep, h.mine, fun k c hk => h.ro k c (hsub k c hk), fun i b hb he => ?_, fun k c hk => ?_, fun g l hg => hkeep _ _ (hgl g l hg), h.frame, h.size, h.fix, ⟨h.anc.1, h.anc.2.1, hkeep⟩⟩⟩
  · show rr (ν'.blk i) = none
    cases hr : rr (ν'.blk i) with
    | none => rfl
    | some c => have := hsub _ _ hr; rw [h.rosep i b hb he] at this; cases this
  · have hk : rr k = some c := hk
    rcases h.ronew k c (hsub k c hk) with h1 | h1
    · left
      show ν0.ro k = some c
      cases h2 : ν0.ro k with
      | some d =>
        have : (ν0.lend L).ro k = some d := by simp [Nm.lend, h2]
        have h1 : (ν0.lend L).ro k = some c := h1
        rw [this] at h1; exact h1
      | none =>
        exfalso
        have h1 : (ν0.lend L).ro k = some c := h1
        simp only [Nm.lend, h2] at h1
        rw [hrr, if_pos ⟨h2, by rw [h1]; simp⟩] at hk
        cases hk
    · exact .inr h1

/-- A CALL BY CONTRACT, and these blocks are lent to it. -/
theorem Does.lend {P0 : Program} {x : Ctx} {f : SV} {args : List SV} {nx : Nat} {H : Heap} {K : SV → Heap → Nat → Prop} {P : Program} {gl : Gl} (hP : P0 = P) (hgl : x.gl = gl) (V : List Nat) (m : Nat) (σ : Nat → Nat) (l : List Nat) (f0 : SV) (args0 : List SV) (H0 : Heap) {Q : SV → Heap → Nat → Prop}
    (h : Con P gl f0 args0 m H0 Q) (hf : lendS H V f = f0.ren σ) (hargs : lendL H V args = SV.renL σ args0) (hpf : lendP H V f) (hpa : lendPL H V args) (hbf : f0.bnd m) (hba : SV.bndL m args0) (hσ : ∀ i, i < m → σ i < nx) (hinj : ∀ i j, i < m → j < m → σ i = σ j → i = j)
    (hv : ∀ i b, H0.get i = some b → i < m ∧ b.bnd m ∧ σ i ∈ l ∧ σ i ∉ V ∧ H.get (σ i) = some (b.ren σ))
    (next : ∀ s H' n', Q s H' n' → Once H' ∧ s.plain ∧ (∀ i b, H'.get i = some b → b.plain) ∧ (m ≤ n' → K (s.ren (tau m nx σ)) (renH (tau m nx σ) H' ++ without l H) (nx + (n' - m)))) : Does P0 x f args nx H K := by
  intro ν w fv vs hn hH hfv hvs
  subst hP hgl
  obtain ⟨L, hL⟩ := lentBy_ex ν H w V
  have hfr : Holds x (ν.lend L) (without V H) w := hH.freeze hL fun i b hb => without_get hb
  have hget : ∀ i b, H0.get i = some b → (without V H).get (σ i) = some (b.ren σ) := by
    intro i b hb
    obtain ⟨_, _, _, h4, h5⟩ := hv i b hb
    have key : ∀ (H : Heap), H.get (σ i) = some (b.ren σ) → (without V H).get (σ i) = some (b.ren σ) := by
      intro H
      induction H with
      | nil => intro h; exact h
      | cons p H ih =>
        obtain ⟨j, c⟩ := p
        intro h
        simp only [Heap.get] at h
        simp only [without]
        split at h
        · rename_i e
          rw [if_neg (by rw [e]; exact h4)]
          simp [Heap.get, e]; simpa using h
        · rename_i e
          split
          · exact ih h
          · simp only [Heap.get, e, if_false]; exact ih h
    exact key _ h5
  have hH2 := hfr.hand (H2 := H0) hinj (fun i b hb => ⟨(hv i b hb).1, (hv i b hb).2.1, hget i b hb⟩)
  have hf2 := lendS_rel hH hL f fv hpf hfv
  have ha2 := lendL_rel hH hL args vs hpa hvs
  rw [hf] at hf2
  rw [hargs] at ha2
  refine (h ((ν.lend L).via m σ) w fv vs rfl hH2 (hf2.via _ _ hbf) (ha2.via _ _ hba)).mono ?_
  rintro v w' ⟨ν', s, H', hq, hgr, hH', hs⟩
  obtain ⟨honce, hsp, hHp, hsat⟩ := next s H' _ hq
  have e1 : (ν.lend L).via m σ = (ν.via m σ).lend L := rfl
  have hfeet : feet ((ν.lend L).via m σ) H0 = feet (ν.via m σ) H0 := rfl
  obtain ⟨ν1, n1, n2, hH1⟩ := Holds.unlend (gl := x.gl) (S := feet (ν.via m σ) H0) (ν0 := ν.via m σ) (L := L) hH' hH.gl hHp
  have hs1 : Rel ν1 s v := Rel.plain n1 n2 s v hsp hs
  obtain ⟨ν'', h1, h2, h3, h4⟩ := hH.back (hn ▸ hσ) (fun i b hb => ⟨(hv i b hb).1, (hv i b hb).2.2.1, (hv i b hb).2.2.2.2⟩) hH1.anc hH1 honce
  rw [hn] at h1 h3 h4
  have hle : m ≤ ν'.nx := hgr.1
  exact ⟨ν'', _, _, h2, h4, hs1.maps h3, by rw [h1, n1]; exact hsat hle⟩

/-- A call that looks at blocks only that are lent to it, by contract; its result is plain and names none. -/
theorem Does.lent {P0 : Program} {x : Ctx} {f : SV} {args : List SV} {nx : Nat} {H : Heap} {K : SV → Heap → Nat → Prop} {P : Program} {gl : Gl} (hP : P0 = P) (hgl : x.gl = gl) (V : List Nat) (args0 : List SV) {Q : SV → Heap → Nat → Prop} (h : Con P gl f args0 0 [] Q) (hbf : f.closed ∧ f.plain ∧ lendS H V f = f ∧ lendP H V f)
    (hargs : lendL H V args = args0) (hpa : lendPL H V args) (hba : SV.bndL 0 args0)
    (next : ∀ s H' n', Q s H' n' → (s.closed ∧ s.plain ∧ H' = [] ∧ n' = 0) ∧ K s H nx) : Does P0 x f args nx H K := by
  have hren : ∀ l : List SV, SV.bndL 0 l → ∀ σ, l = SV.renL σ l := fun l hl σ => by rw [SV.renL_bnd (σ := σ) (τ := id) (m := 0) (fun i hi => absurd hi (Nat.not_lt_zero i)) l hl, SV.renL_id]
  refine Does.lend hP hgl V 0 id [] f args0 [] h (by rw [hbf.2.2.1]; exact (SV.ren_closed hbf.1 _).symm) (by rw [hargs]; exact hren _ hba _) hbf.2.2.2 hpa hbf.1 hba (fun i hi => absurd hi (Nat.not_lt_zero i)) (fun i j hi => absurd hi (Nat.not_lt_zero i)) (fun i b hb => by simp [Heap.get] at hb) fun s H' n' hq => ?_
  obtain ⟨⟨h1, h2, rfl, rfl⟩, h3⟩ := next s H' n' hq
  refine ⟨.nil, h2, fun i b hb => by simp [Heap.get] at hb, fun _ => ?_⟩
  rw [SV.ren_closed h1, without_nil]
  exact h3
end Go.Sy
namespace Go.Sy
open Go
set_option linter.unusedSimpArgs false
set_option linter.unusedVariables false

theorem evs_congr {gl : Gl} {env env' : Env} : ∀ {xs : List Operand}, (∀ x ∈ xs, ev gl env x = ev gl env' x) → evs gl env xs = evs gl env' xs
  | [], _ => rfl
  | x :: xs, h => by
    simp only [evs]
    rw [h x (List.mem_cons_self ..), evs_congr fun y hy => h y (List.mem_cons_of_mem _ hy)]
theorem evps_congr {gl : Gl} {env env' : Env} : ∀ {xs : List (Nat × Operand)}, (∀ x ∈ xs.map (·.2), ev gl env x = ev gl env' x) → evps gl env xs = evps gl env' xs
  | [], _ => rfl
  | (i, x) :: xs, h => by
    simp only [evps]
    rw [h x (by simp), evps_congr fun y hy => h y (by simp only [List.map_cons, List.mem_cons]; exact .inr hy)]

theorem sBuiltin_congr {P : Program} {gl : Gl} {env env' : Env} {H : Heap} {nx : Nat} {b : Builtin} {xs : List Operand} {ts : List TypeId} (h : ∀ x ∈ xs, ev gl env x = ev gl env' x) :
    sBuiltin P gl env H nx b xs ts = sBuiltin P gl env' H nx b xs ts := by
  have hm : xs.map (ev gl env) = xs.map (ev gl env') := List.map_congr_left h
  unfold sBuiltin
  split <;> first | (rw [hm]; done) | (simp_all; done)

theorem sBuiltinC_congr {P : Program} {gl : Gl} {env env' : Env} {H : Heap} {nx : Nat} {b : Builtin} {xs : List Operand} {ts : List TypeId} (h : ∀ x ∈ xs, ev gl env x = ev gl env' x) :
    sBuiltinC P gl env H nx b xs ts = sBuiltinC P gl env' H nx b xs ts := by
  unfold sBuiltinC
  split <;> first | rfl | (simp_all; done)
theorem sopC_congr {P : Program} {gl : Gl} {env env' : Env} {H : Heap} {nx : Nat} {op : Op} (h : ∀ x ∈ op.operands, ev gl env x = ev gl env' x) : sopC P gl env H nx op = sopC P gl env' H nx op := by
  cases op <;> simp only [Op.operands] at h <;> simp only [sopC]
  case call c =>
    obtain ⟨cal, args, tys⟩ := c
    cases cal with
    | builtin b => exact sBuiltinC_congr fun x hx => h x (by simpa [Call.operands] using hx)
    | _ => rfl

/-- AN OPERATION LOOKS AT ITS OPERANDS ONLY. -/
theorem sop_congr {P : Program} {gl : Gl} {env env' : Env} {H : Heap} {nx : Nat} {op : Op} (h : ∀ x ∈ op.operands, ev gl env x = ev gl env' x) : sop P gl env H nx op = sop P gl env' H nx op := by
  cases op <;> simp only [Op.operands] at h <;> simp only [sop]
  case build t ps => rw [evps_congr (env := env) (env' := env') fun x hx => h x (by simpa using hx)]
  case buildSlice t n ps => rw [evps_congr (env := env) (env' := env') fun x hx => h x (by simpa using hx)]
  case makeFunc fn first captured =>
    rw [evs_congr (env := env) (env' := env') (xs := first.toList) fun x hx => h x (by simp at hx; simp [hx]), evs_congr (env := env) (env' := env') (xs := captured.toList) fun x hx => h x (by simp at hx; simp [hx])]
  case makeMap t r => cases r <;> rfl
  case next y b => cases b <;> simp_all
  case slice t x lo hi mx => cases lo <;> cases hi <;> cases mx <;> simp_all
  case call c =>
    obtain ⟨cal, args, tys⟩ := c
    cases cal with
    | builtin b => exact sBuiltin_congr fun x hx => h x (by simpa [Call.operands] using hx)
    | _ => rfl
  all_goals (first | rfl | (simp_all; done))

/-- An operation whose outcome hangs on its operands alone. -/
def pureOp : Op → Bool
  | .move _ | .assign _ | .pick .. | .nilCheck _ | .binOp .. | .unOp .. | .convert .. | .makeFunc .. | .slice .. | .fieldAddr .. | .field .. | .indexAddr .. | .index .. | .extract .. | .build .. => true
  | .call { callee := .builtin b, .. } => match b with | .len | .min | .max => true | _ => false
  | _ => false
def R1.re (H : Heap) (nx : Nat) : R1 → R1
  | .ok s _ _ => .ok s H nx
  | .need p r => .need p (r.re H nx)
  | .all k => .all fun i => (k i).re H nx
  | .fail s => .fail s
theorem rOf_re (x : Option SV) (H H' : Heap) (nx nx' : Nat) : rOf x H' nx' = (rOf x H nx).re H' nx' := by cases x <;> rfl
theorem sPick_re (c a b : Option SV) (H H' : Heap) (nx nx' : Nat) : sPick c a b H' nx' = (sPick c a b H nx).re H' nx' := by
  rcases c with _ | c
  · rfl
  · cases c <;> try rfl
    rename_i v
    cases v <;> try rfl
    rename_i t
    cases t <;> exact rOf_re _ _ _ _ _
theorem sInt_re (op : BinOp) (k k' : IntKind) (a b : Int) (H H' : Heap) (nx nx' : Nat) : sInt op k k' a b H' nx' = (sInt op k k' a b H nx).re H' nx' := by
  cases op <;> simp only [sInt] <;> (try split) <;> rfl
theorem sop_pure {P : Program} {gl : Gl} {env : Env} {H H' : Heap} {nx nx' : Nat} {op : Op} (h : pureOp op = true) : sop P gl env H' nx' op = (sop P gl env H nx op).re H' nx' := by
  cases op <;> simp only [pureOp] at h <;> first | (cases h; done) | skip
  all_goals simp only [sop]
  case move x => exact rOf_re _ _ _ _ _
  case assign x => exact rOf_re _ _ _ _ _
  case pick c a b => exact sPick_re _ _ _ _ _ _ _
  case nilCheck x => unfold sNil; split <;> rfl
  case binOp op t x y u =>
    unfold sBin
    split
    · exact sInt_re _ _ _ _ _ _ _ _ _
    · split <;> rfl
    · split
      · unfold sEqAgg; split <;> (try split) <;> (try split) <;> rfl
      · unfold sEqAgg; split <;> (try split) <;> (try split) <;> rfl
      · rfl
    · split
      · unfold sEqAgg; split <;> (try split) <;> (try split) <;> rfl
      · unfold sEqAgg; split <;> (try split) <;> (try split) <;> rfl
      · rfl
    · split
      · unfold sEqArr; split <;> rfl
      · unfold sEqArr; split <;> rfl
      · rfl
    · split
      · unfold sEqR; split <;> rfl
      · unfold sEqR; split <;> rfl
      · rfl
    · rfl
  case unOp op t x => unfold sUn; split <;> (try split) <;> rfl
  case convert t d x => split <;> (try (unfold sConv; split <;> (try split) <;> (try split))) <;> rfl
  case makeFunc fn f c => unfold sMakeFunc; split <;> rfl
  case slice t x lo hi mx => unfold sSlice; split <;> (try split) <;> (try split) <;> rfl
  case fieldAddr t x f => unfold sFieldAddr; split <;> (try split) <;> (try split) <;> rfl
  case field t x f => unfold sField; split <;> (try split) <;> (try split) <;> first | exact rOf_re _ _ _ _ _ | rfl
  case indexAddr t x i => unfold sIndexAddr; split <;> (try split) <;> (try split) <;> rfl
  case index t x i => unfold sIndex; split <;> (try split) <;> (try split) <;> first | rfl | (simp only [R1.re]; congr 1; exact rOf_re _ _ _ _ _)
  case extract x i => unfold sExtract; split <;> first | exact rOf_re _ _ _ _ _ | rfl
  case build t ps =>
    unfold sBuild
    split
    · unfold sBuildA; split <;> (try split) <;> (try split) <;> (try split) <;> rfl
    · unfold sBuild0; split <;> (try split) <;> (try split) <;> rfl
  case call c =>
    obtain ⟨cal, args, tys⟩ := c
    cases cal with
    | builtin b =>
      simp only at h ⊢
      unfold sBuiltin
      split
      · unfold sLen; split <;> (try split) <;> rfl
      · cases h
      · cases h
      · cases h
      · unfold sMinMax; split <;> rfl
      · unfold sMinMax; split <;> rfl
      · cases h
      · rfl
    | _ => rfl

/-- An order of a statement's operations: 'q i': i, a quiet one, is taken now; 'l i rs': i is carried out, and these are asked again behind it. -/
inductive Plan
  | fin
  | q (i : Nat) (p : Plan)
  | l (i : Nat) (rs : List Nat) (p : Plan)
  | m (i : Nat) (rs : List Nat) (p : Plan)
  | c (f : Bool) (i : Nat) (rs : List Nat) (p : Plan)
  | or (p q : Plan)
def Plan.len : Plan → Nat
  | .fin => 0
  | .q _ p => p.len + 1
  | .l _ _ p => p.len + 1
  | .m _ _ p => p.len + 1
  | .c _ _ _ p => p.len + 1
  | .or p _ => p.len
/-- The loud ones of which each may come first. -/
def Plan.heads : Plan → List Nat
  | .m i _ _ => [i]
  | .or a b => a.heads ++ b.heads
  | .fin => []
  | .q _ _ => []
  | .l _ _ _ => []
  | .c _ _ _ _ => []
def awaits (o : Oper) (j : Nat) : Bool := o.after.any fun e => Region.binds .any e && e.on == j
/-- What a quiet one writes is looked at by those alone that wait for it, and is written by no other; all wait for earlier ones. -/
def quietB (ops : Array Oper) (qn : List Nat) : Bool :=
  (qn.all fun j => match ops[j]? with
    | some o => quietOp o.op && (List.range ops.size).all fun i => match ops[i]? with
      | some u => match o.dst with
        | some d => (!(u.looksAt ops).contains d || (i != j && awaits u j)) && (i == j || u.dst != some d)
        | none => true
      | none => true
    | none => false) &&
  (List.range ops.size).all fun i => match ops[i]? with
    | some u => u.after.all fun e => !Region.binds .any e || decide (e.on < i)
    | none => true

def rsB (ops : Array Oper) (i : Nat) (rs qs : List Nat) : Bool := match ops[i]? with
    | some u => qs.all fun j => awaits u j || rs.contains j || match ops[j]? with | some o => pureOp o.op && (match u.dst with | some d => !(o.looksAt ops).contains d | none => true) | none => true
    | none => false
def planG (ops : Array Oper) (qn : List Nat) : Plan → Bool → List Nat → Array Bool → Bool
  | .fin, b, _, L => !b && (Region.ready .any ops L).isEmpty && L.all id
  | .q i p, b, qs, L => !b && (Region.ready .any ops L).contains i && qn.contains i && planG ops qn p false (i :: qs) (L.setIfInBounds i true)
  | .l i rs p, b, qs, L => !b && (Region.ready .any ops L == [i]) && !qn.contains i && rsB ops i rs qs && planG ops qn p false qs (L.setIfInBounds i true)
  | .c _ i rs p, b, qs, L => !b && (Region.ready .any ops L == [i]) && !qn.contains i && rsB ops i rs qs && planG ops qn p false qs (L.setIfInBounds i true)
  | .m i rs p, b, qs, L => b && (Region.ready .any ops L).contains i && !qn.contains i && rsB ops i rs qs && planG ops qn p false qs (L.setIfInBounds i true)
  | .or p q, b, qs, L => (b || (Region.ready .any ops L).all fun i => (p.heads ++ q.heads).contains i) && (p.len == q.len) && planG ops qn p true qs L && planG ops qn q true qs L
abbrev planB (ops : Array Oper) (qn : List Nat) (p : Plan) (qs : List Nat) (L : Array Bool) : Bool := planG ops qn p false qs L
/-- What is owed by a bool that is not known yet. -/
def GF (t want : Bool) (k : Bool → Prop) : Prop := (t = want → k true) ∧ (t = (!want) → k false)
theorem GF.tt (k : Bool → Prop) : GF true true k ↔ k true := by simp [GF]
theorem GF.ff (k : Bool → Prop) : GF false false k ↔ k true := by simp [GF]
theorem GF.tf (k : Bool → Prop) : GF true false k ↔ k false := by simp [GF]
theorem GF.ft (k : Bool → Prop) : GF false true k ↔ k false := by simp [GF]
theorem GF.of {t want : Bool} {k : Bool → Prop} (h1 : t = want → k true) (h2 : t = (!want) → k false) : GF t want k := ⟨h1, h2⟩
def guardP (ops : Array Oper) (env : Env) (o : Oper) (k : Bool → Prop) : Prop :=
  match o.guard with
  | none => k true
  | some (j, want) => match (ops[j]?).bind (·.dst) with
    | some d => match env.get d with
      | some (.v (.bool t)) => GF t want k
      | some (.v (.tuple _)) => k false
      | _ => False
    | none => False
/-- One result at most. -/
def R1Q (Q : SV → Prop) : R1 → Prop
  | .ok s _ _ => Q s
  | .need p r => p ∧ (p → R1Q Q r)
  | .all _ => False
  | .fail _ => False
def slotIs (env : Env) (s : SV) : Option Nat → Prop
  | some d => env.get d = some s
  | none => True
def dstOK (nt : Nat) : Option Nat → Prop
  | some d => d < nt
  | none => True
def slotR (env : Env) (dst : Option Nat) (s : SV) (_ : Heap) (_ : Nat) : Prop := slotIs env s dst
def ag (P : Program) (gl : Gl) (env : Env) (H : Heap) (nx : Nat) (o : Oper) (run : Bool) : Prop := match run with
  | true => R1OK (slotR env o.dst) (sop P gl env H nx o.op)
  | false => slotIs env undefS o.dst
def again1 (P : Program) (gl : Gl) (ops : Array Oper) (env : Env) (H : Heap) (nx : Nat) (o : Oper) : Prop :=
  guardP ops env o (ag P gl env H nx o)
def again (P : Program) (gl : Gl) (ops : Array Oper) (env : Env) (H : Heap) (nx : Nat) : List Nat → Prop
  | [] => True
  | j :: qs => (match ops[j]? with
      | some o => again1 P gl ops env H nx o
      | none => True) ∧ again P gl ops env H nx qs

theorem frz_ok {Q : SV → Heap → Nat → Prop} : ∀ r : R1, R1OK Q (frzR r) → R1OK (fun s H n => ∃ i sz cap T xs H', s = .sl i sz 0 xs.length cap ∧ H = (i, .row sz cap T xs) :: H' ∧ (0 < cap → cap ≠ 0) ∧ Heap.get H' i = none ∧ Q (.rd sz xs) H' n) r
  | .ok s H n, h => by
    have h : R1OK Q (frzOk H n s) := h
    unfold frzOk at h
    split at h
    · rename_i i sz len cap
      split at h
      · rename_i j s c T xs H'
        split at h
        · rename_i he
          obtain ⟨rfl, rfl, rfl⟩ := he
          obtain ⟨⟨rfl, h1, h2⟩, h3⟩ := h
          exact ⟨_, _, _, _, _, _, rfl, rfl, h1, h2, h3 ⟨rfl, h1, h2⟩⟩
        · exact h.elim
      · exact h.elim
    · exact h.elim
  | .need p r, h => ⟨h.1, fun hp => frz_ok r (h.2 hp)⟩
  | .all k, h => fun n => frz_ok (k n) (h n)
  | .fail _, h => h.elim
theorem sopF_sound {P : Program} {x : Ctx} {ν : Nm} {H : Heap} {w : World} {Q : SV → Heap → Nat → Prop} {nt : Nat} {env : Env} {a : Act} {o : Oper} (hE : RelE ν nt env a.tmps) (hH : Holds x ν H w) (hr : R1OK Q (frzR (sop P x.gl env H ν.nx o.op))) : OpR P x ν w (execOp a.eval o) Q := by
  obtain ⟨v, w', ν', s, H', hrun, hg, hH', hs, i, sz, cap, T, xs, H2, rfl, rfl, hc, hno, hQ⟩ := sop_sound (P := P) hE hH (frz_ok _ hr)
  obtain ⟨L, hL⟩ := lentBy_ex ν' ((i, .row sz cap T xs) :: H2) w' [i]
  have hi : Heap.get ((i, .row sz cap T xs) :: H2) i = some (.row sz cap T xs) := by simp [Heap.get]
  obtain ⟨_, hnc, _⟩ := hH'.ok i _ hi
  have hp : lendP ((i, .row sz cap T xs) :: H2) [i] (.sl i sz 0 xs.length cap) := by
    simp only [lendP, List.mem_singleton, if_true, hi, lendSlP]
    exact ⟨by omega, hnc, hc⟩
  have e1 : lendS ((i, .row sz cap T xs) :: H2) [i] (.sl i sz 0 xs.length cap) = .rd sz xs := by
    simp [lendS, lendSl, hi]
  have h1 := lendS_rel hH' hL _ _ hp hs
  rw [e1] at h1
  refine ⟨v, w', ν'.lend L, .rd sz xs, H2, hrun, hg.trans (.lend ν' L), hH'.freeze hL fun k b hk => ?_, h1, hQ⟩
  have hne : k ≠ i := fun e => by rw [e, hno] at hk; cases hk
  refine ⟨by simpa using hne, ?_⟩
  simp only [Heap.get]
  rw [if_neg (fun e => hne e.symm)]
  exact hk
def DCall (κ : Kx) (x : Ctx) (g : SV) (as : List SV) (dst : Option Nat) (H : Heap) (nx : Nat) (dfs : List Nat) (K : SV → Heap → Nat → Prop) : Prop :=
  ∀ (todo : List Item) (env : Env), (∀ s H' nx', K s H' nx' → Sat κ x ⟨todo, setO dst s env, H', nx', dfs⟩) → CallOK κ x g as dst ⟨todo, env, H, nx, dfs⟩

def loudP (κ : Kx) (x : Ctx) (P : Program) (gl : Gl) (o : Oper) (env : Env) (H : Heap) (nx : Nat) (dfs : List Nat) (K : SV → Heap → Nat → Prop) : Prop :=
  match o.op with
  | .call { callee := .value f, args, .. } => match ev gl env f, evs gl env args.toList with
    | some g, some as => DCall κ x g as o.dst H nx dfs K
    | _, _ => False
  | op => R1OK K (sop P gl env H nx op)

def loudC (P : Program) (gl : Gl) (f : Bool) (o : Oper) (env : Env) (H : Heap) (nx : Nat) (K : SV → Heap → Nat → Prop) : Prop := match f with
  | true => R1OK K (frzR (sop P gl env H nx o.op))
  | false => R1OK K (sopC P gl env H nx o.op)
/-- What comes behind a call. -/
def dnext (P : Program) (gl : Gl) (ops : Array Oper) (rs : List Nat) (dst : Option Nat) (env : Env) (next : Env → Heap → Nat → Prop) (s : SV) (H' : Heap) (nx' : Nat) : Prop := again P gl ops (setO dst s env) H' nx' rs ∧ next (setO dst s env) H' nx'
def dqn (dst : Option Nat) (env : Env) (H : Heap) (nx : Nat) (next : Env → Heap → Nat → Prop) (s : SV) : Prop := next (setO dst s env) H nx
/-- What comes by a quiet one. -/
def dq (P : Program) (gl : Gl) (o : Oper) (env : Env) (H : Heap) (nx : Nat) (next : Env → Heap → Nat → Prop) (run : Bool) : Prop := match run with
  | true => R1Q (dqn o.dst env H nx next) (sop P gl env H nx o.op)
  | false => next (setO o.dst undefS env) H nx
/-- What comes by a loud one. -/
def dl (κ : Kx) (x : Ctx) (P : Program) (gl : Gl) (ops : Array Oper) (dfs : List Nat) (rs : List Nat) (o : Oper) (env : Env) (H : Heap) (nx : Nat) (next : Env → Heap → Nat → Prop) (run : Bool) : Prop := match run with
  | true => loudP κ x P gl o env H nx dfs (dnext P gl ops rs o.dst env next)
  | false => again P gl ops (setO o.dst undefS env) H nx rs ∧ next (setO o.dst undefS env) H nx
/-- What comes by an append of which more is said. -/
def dlc (P : Program) (gl : Gl) (f : Bool) (ops : Array Oper) (rs : List Nat) (o : Oper) (env : Env) (H : Heap) (nx : Nat) (next : Env → Heap → Nat → Prop) (run : Bool) : Prop := match run with
  | true => loudC P gl f o env H nx (dnext P gl ops rs o.dst env next)
  | false => again P gl ops (setO o.dst undefS env) H nx rs ∧ next (setO o.dst undefS env) H nx
def drawP (κ : Kx) (x : Ctx) (P : Program) (gl : Gl) (nt : Nat) (ops : Array Oper) (dfs : List Nat) (fin : Env → Heap → Nat → Prop) : Plan → Env → Heap → Nat → Prop
  | .fin, env, H, nx => fin env H nx
  | .q i p, env, H, nx => match ops[i]? with
    | none => False
    | some o => dstOK nt o.dst ∧ guardP ops env o (dq P gl o env H nx (drawP κ x P gl nt ops dfs fin p))
  | .l i rs p, env, H, nx => match ops[i]? with
    | none => False
    | some o => dstOK nt o.dst ∧ guardP ops env o (dl κ x P gl ops dfs rs o env H nx (drawP κ x P gl nt ops dfs fin p))
  | .m i rs p, env, H, nx => match ops[i]? with
    | none => False
    | some o => dstOK nt o.dst ∧ guardP ops env o (dl κ x P gl ops dfs rs o env H nx (drawP κ x P gl nt ops dfs fin p))
  | .c f i rs p, env, H, nx => match ops[i]? with
    | none => False
    | some o => dstOK nt o.dst ∧ guardP ops env o (dlc P gl f ops rs o env H nx (drawP κ x P gl nt ops dfs fin p))
  | .or p q, env, H, nx => drawP κ x P gl nt ops dfs fin p env H nx ∧ drawP κ x P gl nt ops dfs fin q env H nx

theorem again1.pure {P : Program} {gl : Gl} {ops : Array Oper} {env : Env} {H H' : Heap} {nx nx' : Nat} {o : Oper} (hp : pureOp o.op = true) (h : again1 P gl ops env H nx o) : again1 P gl ops env H' nx' o := by
  have key : ∀ (Q : SV → Prop) (r : R1), R1OK (fun s _ _ => Q s) r → R1OK (fun s _ _ => Q s) (r.re H' nx') := by
    intro Q r
    induction r with
    | ok s H nx => exact fun h => h
    | need p r ih => exact fun h => ⟨h.1, fun hp => ih (h.2 hp)⟩
    | all k ih => exact fun h i => ih i (h i)
    | fail s => exact fun h => h
  unfold again1 guardP at h ⊢
  split at h
  · rename_i hg
    show R1OK (slotR env o.dst) _
    rw [sop_pure (H := H) (nx := nx) hp]
    exact key (fun s => slotIs env s o.dst) _ h
  · rename_i j want hg
    cases hd : (ops[j]?).bind (·.dst) with
    | none => rw [hd] at h; exact h
    | some d =>
      rw [hd] at h
      try simp only at h
      try simp only
      split at h
      · refine ⟨fun e => ?_, h.2⟩
        have := h.1 e
        try simp only at this
        try simp only
        show R1OK (slotR env o.dst) _
        rw [sop_pure (H := H) (nx := nx) hp]
        exact key (fun s => slotIs env s o.dst) _ this
      · exact h
      · exact h
theorem R1Q.toOK {Q : SV → Prop} : ∀ {r : R1}, R1Q Q r → R1OK (fun s _ _ => Q s) r
  | .ok _ _ _, h => h
  | .need _ r, h => ⟨h.1, fun p => R1Q.toOK (r := r) (h.2 p)⟩
  | .all _, h => h.elim
  | .fail _, h => h.elim
theorem R1Q.pick {Q : SV → Prop} : ∀ {r : R1}, R1Q Q r → ∃ s, Q s ∧ R1OK (fun s' _ _ => s' = s) r
  | .ok s _ _, h => ⟨s, h, rfl⟩
  | .need _ r, h => by
    obtain ⟨s, h1, h2⟩ := R1Q.pick (r := r) (h.2 h.1)
    exact ⟨s, h1, h.1, fun _ => h2⟩
  | .all _, h => h.elim
  | .fail _, h => h.elim
theorem R1OK.mono {Q Q' : SV → Heap → Nat → Prop} (hq : ∀ s H n, Q s H n → Q' s H n) : ∀ {r : R1}, R1OK Q r → R1OK Q' r
  | .ok _ _ _, h => hq _ _ _ h
  | .need _ r, h => ⟨h.1, fun p => R1OK.mono hq (r := r) (h.2 p)⟩
  | .all k, h => fun i => R1OK.mono hq (r := k i) (h i)
  | .fail _, h => h.elim

/-- An environment without some slots. -/
def hide (p : Nat → Bool) : Env → Env
  | [] => []
  | (t, s) :: e => if p t then hide p e else (t, s) :: hide p e
theorem hide_get {p : Nat → Bool} {t : Nat} : ∀ {e : Env}, (hide p e).get t = if p t then none else e.get t
  | [] => by simp [hide, Env.get]
  | (u, s) :: e => by
    have ih := hide_get (p := p) (t := t) (e := e)
    simp only [hide]
    split
    · rename_i h
      rw [ih]
      split
      · rfl
      · rename_i h2
        simp only [Env.get]
        rw [if_neg (fun e => by subst e; exact h2 h)]
    · rename_i h
      simp only [Env.get]
      split
      · rename_i e; subst e; simp [h]
      · exact ih

theorem ev_of_looks {gl : Gl} {ops : Array Oper} {o : Oper} {env env' : Env} (h : ∀ d ∈ o.looksAt ops, env.get d = env'.get d) : ∀ x ∈ o.op.operands, ev gl env x = ev gl env' x := by
  intro x hx
  cases x with
  | tmp t => exact h t (List.mem_append_left _ (List.mem_filterMap.2 ⟨.tmp t, by simpa using hx, rfl⟩))
  | _ => rfl

theorem guard_looks {ops : Array Oper} {o : Oper} {j d : Nat} {want : Bool} (hg : o.guard = some (j, want)) (hd : (ops[j]?).bind (·.dst) = some d) : d ∈ o.looksAt ops := by
  refine List.mem_append_right _ ?_
  simp [hg, hd]

/-- The guard is what the machine finds. -/
theorem guardP_sound {ops : Array Oper} {o : Oper} {env env' : Env} {K : Bool → Prop} {ν : Nm} {nt : Nat} {tm : Array Value} (h : guardP ops env o K) (hE : RelE ν nt env' tm) (hl : ∀ d ∈ o.looksAt ops, env.get d = env'.get d) :
    (Region.wanted o (yielded ops tm) = true ∧ K true) ∨ (Region.wanted o (yielded ops tm) = false ∧ K false) := by
  unfold guardP at h
  split at h
  · rename_i hg; exact .inl ⟨by simp [Region.wanted, hg], h⟩
  · rename_i j want hg
    split at h
    case h_2 => exact h.elim
    rename_i d hd
    have hld := hl d (guard_looks hg hd)
    split at h
    · rename_i t ht
      rw [hld] at ht
      obtain ⟨y, hy1, hy2⟩ := hE.2 d _ ht
      simp only [Rel] at hy2
      subst hy2
      have hy := guard_yield hd hy1
      by_cases e : t = want
      · exact .inl ⟨by simp [Region.wanted, hg, hy, e], h.1 e⟩
      · exact .inr ⟨by simp [Region.wanted, hg, hy, e], h.2 (by cases t <;> cases want <;> simp_all)⟩
    · rename_i t ht
      rw [hld] at ht
      obtain ⟨y, hy1, hy2⟩ := hE.2 d _ ht
      simp only [Rel] at hy2
      subst hy2
      have hy := guard_yield' hd hy1
      exact .inr ⟨by simp [Region.wanted, hg, hy], h⟩
    · exact h.elim
theorem guardP.imp {ops : Array Oper} {o : Oper} {env env' : Env} {K K' : Bool → Prop} (h : guardP ops env o K) (hl : ∀ d ∈ o.looksAt ops, env.get d = env'.get d) (hk : ∀ b, K b → K' b) : guardP ops env' o K' := by
  unfold guardP at h
  split at h
  · rename_i hg; unfold guardP; rw [hg]; exact hk _ h
  · rename_i j want hg
    split at h
    case h_2 => exact h.elim
    rename_i d hd
    have hld := hl d (guard_looks hg hd)
    unfold guardP; rw [hg]; simp only [hd]
    split at h
    · rename_i t ht
      rw [← hld, ht]
      exact ⟨fun e => hk _ (h.1 e), fun e => hk _ (h.2 e)⟩
    · rename_i t ht
      rw [← hld, ht]
      exact hk _ h
    · exact h.elim

theorem again1.congr {P : Program} {gl : Gl} {ops : Array Oper} {env env' : Env} {H : Heap} {nx : Nat} {o : Oper} (h : again1 P gl ops env H nx o) (hl : ∀ d ∈ o.looksAt ops, env.get d = env'.get d) (hd : ∀ d, o.dst = some d → env.get d = env'.get d) : again1 P gl ops env' H nx o := by
  have hs : ∀ s, slotIs env s o.dst → slotIs env' s o.dst := by
    intro s hs
    cases e : o.dst with
    | none => trivial
    | some d =>
      rw [e] at hs
      have hs : env.get d = some s := hs
      show env'.get d = some s
      rw [← hd d e]; exact hs
  refine guardP.imp h hl fun b hb => ?_
  cases b with
  | true =>
    show R1OK _ _
    rw [← sop_congr (ev_of_looks hl)]
    exact hb.mono fun s _ _ => hs s
  | false => exact hs _ hb

def pdst (ops : Array Oper) (pend : List Nat) (t : Nat) : Bool := pend.any fun j => (ops[j]?).bind (·.dst) == some t

section
variable {ops : Array Oper} {qn : List Nat}

theorem quiet_op (hB : quietB ops qn = true) {j : Nat} {o : Oper} (hj : j ∈ qn) (ho : ops[j]? = some o) : quietOp o.op = true := by
  simp only [quietB, Bool.and_eq_true, List.all_eq_true] at hB
  have := hB.1 j hj
  simp only [ho, Bool.and_eq_true] at this
  exact this.1
theorem quiet_lt (hB : quietB ops qn = true) {j : Nat} (hj : j ∈ qn) : ∃ o, ops[j]? = some o := by
  simp only [quietB, Bool.and_eq_true, List.all_eq_true] at hB
  have := hB.1 j hj
  cases ho : ops[j]? with
  | none => simp [ho] at this
  | some o => exact ⟨o, rfl⟩
theorem quiet_spec (hB : quietB ops qn = true) {j i d : Nat} {o u : Oper} (hj : j ∈ qn) (ho : ops[j]? = some o) (hi : ops[i]? = some u) (hd : o.dst = some d) :
    (d ∈ u.looksAt ops → i ≠ j ∧ awaits u j = true) ∧ (i ≠ j → u.dst ≠ some d) := by
  simp only [quietB, Bool.and_eq_true, List.all_eq_true] at hB
  have := hB.1 j hj
  simp only [ho, Bool.and_eq_true, List.all_eq_true, List.mem_range] at this
  have h := this.2 i (Array.getElem?_eq_some_iff.1 hi).1
  simp only [hi, hd, Bool.and_eq_true, Bool.or_eq_true, Bool.not_eq_true', bne_iff_ne, ne_eq, beq_iff_eq] at h
  refine ⟨fun hm => ?_, fun hne => h.2.resolve_left hne⟩
  exact h.1.resolve_left (by simp [hm])
theorem topo_spec (hB : quietB ops qn = true) {i : Nat} {u : Oper} (hi : ops[i]? = some u) : ∀ e ∈ u.after, Region.binds .any e = true → e.on < i := by
  intro e he hb
  simp only [quietB, Bool.and_eq_true, List.all_eq_true, List.mem_range] at hB
  have h := hB.2 i (Array.getElem?_eq_some_iff.1 hi).1
  simp only [hi, Array.all_eq_true_iff_forall_mem] at h
  have := h e he
  simpa [hb] using this
theorem awaits_spec {u : Oper} {j : Nat} (h : awaits u j = true) : ∃ e ∈ u.after, Region.binds .any e = true ∧ e.on = j := by
  unfold awaits at h
  obtain ⟨i, hi, h⟩ := Array.any_eq_true.1 h
  simp only [Bool.and_eq_true, beq_iff_eq] at h
  exact ⟨u.after[i], Array.getElem_mem hi, h⟩

theorem getD_false {M : Array Bool} {j : Nat} (h : M.getD j true = false) : M.getD j false = false := by
  rcases Nat.lt_or_ge j M.size with h' | h'
  · simp [h'] at h ⊢; exact h
  · simp [Array.getElem?_eq_none h'] at h

/-- While one is left, one is ready. -/
theorem ready_some (hB : quietB ops qn = true) {M : Array Bool} (hs : M.size = ops.size) (hr : Region.ready .any ops M = []) : ∀ i, M.getD i true = true := by
  have key : ∀ n i, i < n → M.getD i true = true := by
    intro n
    induction n with
    | zero => intro i hi; omega
    | succ n ih =>
      intro i hi
      cases hm : M.getD i true with
      | true => rfl
      | false =>
        exfalso
        have hlt : i < ops.size := by
          rcases Nat.lt_or_ge i M.size with h' | h'
          · omega
          · simp [Array.getElem?_eq_none h'] at hm
        have ho : ops[i]? = some ops[i] := by simp [hlt]
        have : i ∈ Region.ready .any ops M := mem_ready.2 ⟨hm, ops[i], ho, fun e he hb => by
          have h1 := topo_spec hB ho e he hb
          have h2 := ih e.on (by omega)
          have h3 : e.on < M.size := by omega
          simp [h3] at h2 ⊢; exact h2⟩
        rw [hr] at this
        cases this
  exact fun i => key (i + 1) i (Nat.lt_succ_self _)
end

structure Pd (κ : Kx) (ops : Array Oper) (qn : List Nat) (M L : Array Bool) (pend qs : List Nat) (x : Ctx) (ν : Nm) (env : Env) (H : Heap) (nx : Nat) (w : World) (tm : Array Value) : Prop where
  szM : M.size = ops.size
  szL : L.size = ops.size
  both : ∀ i, L.getD i true = true ↔ (M.getD i true = true ∨ i ∈ pend)
  pq : ∀ j ∈ pend, j ∈ qn ∧ j ∈ qs ∧ M.getD j true = false
  dep : ∀ j ∈ pend, ∀ o, ops[j]? = some o → ∀ e ∈ o.after, Region.binds .any e = true → L.getD e.on false = true
  nd : pend.Nodup
  nxe : ν.nx = nx
  hH : Holds x ν H w
  rel : RelE ν κ.nt (hide (pdst ops pend) env) tm
  ag : ∀ j ∈ pend, ∀ o, ops[j]? = some o → again1 κ.P x.gl ops env H nx o
  dk : ∀ j ∈ pend, ∀ o, ops[j]? = some o → dstOK κ.nt o.dst

theorem looks_ok {ops : Array Oper} {qn : List Nat} (hB : quietB ops qn = true) {M : Array Bool} {pend : List Nat} (hp : ∀ j ∈ pend, j ∈ qn ∧ M.getD j true = false) {i : Nat} {u : Oper} (hi : ops[i]? = some u)
    (hr : i ∈ Region.ready .any ops M) {env : Env} : ∀ d ∈ u.looksAt ops, env.get d = (hide (pdst ops pend) env).get d := by
  intro d hd
  rw [hide_get]
  cases h : pdst ops pend d with
  | false => rfl
  | true =>
    exfalso
    simp only [pdst, List.any_eq_true, beq_iff_eq, Option.bind_eq_some_iff] at h
    obtain ⟨j, hj, o, ho, hod⟩ := h
    obtain ⟨h1, h2⟩ := hp j hj
    obtain ⟨h3, h4⟩ := (quiet_spec hB h1 ho hi hod).1 hd
    obtain ⟨e, he, hb, rfl⟩ := awaits_spec h4
    obtain ⟨_, u', hu', hall⟩ := mem_ready.1 hr
    rw [hi] at hu'
    simp only [Option.some.injEq] at hu'
    subst hu'
    have := hall e he hb
    rw [getD_false h2] at this
    cases this

theorem pdst_erase {ops : Array Oper} {pend : List Nat} {i t : Nat} {o : Oper} (ho : ops[i]? = some o) (ht : o.dst ≠ some t) (h : pdst ops (pend.erase i) t = false) : pdst ops pend t = false := by
  cases hp : pdst ops pend t with
  | false => rfl
  | true =>
    simp only [pdst, List.any_eq_true, beq_iff_eq] at hp
    obtain ⟨j, hj, hjd⟩ := hp
    have hne : j ≠ i := by
      rintro rfl
      simp only [ho, Option.bind_some] at hjd
      exact ht hjd
    have : pdst ops (pend.erase i) t = true := by
      simp only [pdst, List.any_eq_true, beq_iff_eq]
      exact ⟨j, (List.mem_erase_of_ne hne).2 hj, hjd⟩
    rw [h] at this
    cases this

theorem rel_erase {ops : Array Oper} {pend : List Nat} {i nt : Nat} {o : Oper} {ν : Nm} {env : Env} {tm : Array Value} {s : SV} {v : Value} (hE : RelE ν nt (hide (pdst ops pend) env) tm) (ho : ops[i]? = some o) (hs : slotIs env s o.dst)
    (hv : Rel ν s v) (hd : dstOK nt o.dst) : RelE ν nt (hide (pdst ops (pend.erase i)) env) (put tm o.dst v) := by
  have key : RelE ν nt (setO o.dst s (hide (pdst ops pend) env)) (put tm o.dst v) := by
    cases e : o.dst with
    | none => exact hE
    | some d => rw [e] at hd; exact hE.put hd hv
  refine ⟨key.1, fun t r ht => ?_⟩
  rw [hide_get] at ht
  split at ht
  · exact absurd ht (by simp)
  · rename_i hp
    refine key.2 t r ?_
    by_cases e : o.dst = some t
    · rw [e] at hs ⊢
      have hs : env.get t = some s := hs
      rw [hs] at ht
      simp only [Option.some.injEq] at ht
      subst ht
      simp [setO, Env.get]
    · have h2 := pdst_erase ho e (by simpa using hp)
      have : (setO o.dst s (hide (pdst ops pend) env)).get t = (hide (pdst ops pend) env).get t := by
        cases e2 : o.dst with
        | none => rfl
        | some d => simp only [setO, Env.get]; rw [if_neg (fun e3 => e (by rw [e2, e3]))]
      rw [this, hide_get, h2]
      exact ht
theorem setO_ne {dst : Option Nat} {s : SV} {env : Env} {t : Nat} (h : dst ≠ some t) : (setO dst s env).get t = env.get t := by
  cases dst with
  | none => rfl
  | some d => simp only [setO, Env.get]; rw [if_neg (fun e => h (by rw [e]))]
theorem setO_eq {s : SV} {env : Env} {t : Nat} : (setO (some t) s env).get t = some s := by simp [setO, Env.get]

section
variable {κ : Kx} {x : Ctx} {ops : Array Oper} {qn : List Nat} {dfs : List Nat} {fin : Env → Heap → Nat → Prop} {k : List Item}

/-- The claim of a plan. -/
def WalkAt (κ : Kx) (x : Ctx) (ops : Array Oper) (qn : List Nat) (dfs : List Nat) (fin : Env → Heap → Nat → Prop) (k : List Item) (fuel : Nat) (p : Plan) : Prop :=
  ∀ t M L pend qs ν env H nx w (a : Act), fuel = p.len + pend.length → planB ops qn p qs L = true → Pd κ ops qn M L pend qs x ν env H nx w a.tmps → RelD ν dfs a.defers → drawP κ x κ.P x.gl κ.nt ops dfs fin p env H nx →
    Lands κ.P (lone (fr κ.b a (.inRegion ops (Region.linearise.go .any ops fuel t M []) :: k)) κ.cs w) κ.T

/-- A pending one comes up. -/
theorem walk_pending (hB : quietB ops qn = true) {fuel : Nat} {p : Plan} (ih : ∀ p, WalkAt κ x ops qn dfs fin k fuel p) {t : Nat} {M L : Array Bool} {pend qs : List Nat} {ν : Nm} {env : Env} {H : Heap} {nx : Nat} {w : World} {a : Act}
    (hf : fuel + 1 = p.len + pend.length) (hp : planB ops qn p qs L = true) (hd : Pd κ ops qn M L pend qs x ν env H nx w a.tmps) (hD : RelD ν dfs a.defers) (h : drawP κ x κ.P x.gl κ.nt ops dfs fin p env H nx)
    {i : Nat} (hi : i ∈ Region.ready .any ops M) (hip : i ∈ pend) :
    Lands κ.P (lone (fr κ.b a (.inRegion ops (i :: Region.linearise.go .any ops fuel t (M.setIfInBounds i true) []) :: k)) κ.cs w) κ.T := by
  obtain ⟨hm, o, ho, hall⟩ := mem_ready.1 hi
  obtain ⟨hq, hqs, _⟩ := hd.pq i hip
  have hlook := looks_ok hB (fun j hj => ⟨(hd.pq j hj).1, (hd.pq j hj).2.2⟩) ho hi (env := env)
  have hop := quiet_op hB hq ho
  have hlt : i < M.size := by rw [hd.szM]; exact (Array.getElem?_eq_some_iff.1 ho).1
  have hdst := hd.dk i hip o ho
  have next : ∀ v s, Rel ν s v → slotIs env s o.dst → Lands κ.P (lone (fr κ.b { a with tmps := put a.tmps o.dst v } (.inRegion ops (Region.linearise.go .any ops fuel t (M.setIfInBounds i true) []) :: k)) κ.cs w) κ.T := by
    intro v s hv hs
    refine ih p t (M.setIfInBounds i true) L (pend.erase i) qs ν env H nx w _ (by rw [List.length_erase_of_mem hip]; have := List.length_pos_of_mem hip; omega) hp ?_ hD h
    refine ⟨by simp [hd.szM], hd.szL, fun j => ?_, fun j hj => ?_, fun j hj => hd.dep j (List.mem_of_mem_erase hj), hd.nd.erase _, hd.nxe, hd.hH, rel_erase hd.rel ho hs hv hdst, fun j hj => hd.ag j (List.mem_of_mem_erase hj), fun j hj => hd.dk j (List.mem_of_mem_erase hj)⟩
    · rw [hd.both j]
      by_cases e : i = j
      · subst e
        simp [hlt, hip]
      · rw [getD_set_ne true e, List.mem_erase_of_ne (Ne.symm e)]
    · have hj' := List.mem_of_mem_erase hj
      obtain ⟨h1, h2, h3⟩ := hd.pq j hj'
      have hne : i ≠ j := by
        rintro rfl
        exact (List.Nodup.not_mem_erase hd.nd) hj
      exact ⟨h1, h2, by rw [getD_set_ne true hne]; exact h3⟩
  have hg := guardP_sound (hd.ag i hip o ho) hd.rel hlook
  rcases hg with ⟨hw, hr⟩ | ⟨hw, hr⟩
  · have hr : R1OK (fun s _ _ => slotIs env s o.dst) (sop κ.P x.gl env H nx o.op) := hr
    rw [sop_congr (ev_of_looks (gl := x.gl) hlook), ← hd.nxe] at hr
    obtain ⟨v, s, h1, h2, h3⟩ := sopq_sound (P := κ.P) hop hd.rel hd.hH hr
    exact lands_op_value ho hw (fun c hc => by rw [hc] at hop; simp [quietOp] at hop) (h1 w (.refl _)) (next v s h2 h3)
  · exact lands_op_skip ho hw (next undef undefS rfl hr)

/-- A loud one comes up. -/
theorem walk_loud (hB : quietB ops qn = true) {fuel : Nat} {p : Plan} (ih : ∀ p, WalkAt κ x ops qn dfs fin k fuel p) {t : Nat} {M L : Array Bool} {pend qs : List Nat} {ν : Nm} {env : Env} {H : Heap} {nx : Nat} {w : World} {a : Act} {i : Nat} {rs : List Nat} (hrs : ∀ u, ops[i]? = some u → ∀ j ∈ qs, awaits u j = true ∨ j ∈ rs ∨ ∀ o, ops[j]? = some o → pureOp o.op = true ∧ ∀ d, u.dst = some d → d ∉ o.looksAt ops)
    (hf : fuel = p.len + pend.length) (hp : planB ops qn p qs (L.setIfInBounds i true) = true) (hd : Pd κ ops qn M L pend qs x ν env H nx w a.tmps) (hD : RelD ν dfs a.defers) (h : drawP κ x κ.P x.gl κ.nt ops dfs fin (.l i rs p) env H nx ∨ (∃ f, drawP κ x κ.P x.gl κ.nt ops dfs fin (.c f i rs p) env H nx))
    (hi : i ∈ Region.ready .any ops M) (hip : i ∉ pend) :
    Lands κ.P (lone (fr κ.b a (.inRegion ops (i :: Region.linearise.go .any ops fuel t (M.setIfInBounds i true) []) :: k)) κ.cs w) κ.T := by
  obtain ⟨hm, o, ho, hall⟩ := mem_ready.1 hi
  have hlook := looks_ok hB (fun j hj => ⟨(hd.pq j hj).1, (hd.pq j hj).2.2⟩) ho hi (env := env)
  have hlt : i < M.size := by rw [hd.szM]; exact (Array.getElem?_eq_some_iff.1 ho).1
  simp only [drawP, ho] at h
  -- what follows
  have next : ∀ ν' w' (a' : Act) s H' nx', again κ.P x.gl ops (setO o.dst s env) H' nx' rs ∧ drawP κ x κ.P x.gl κ.nt ops dfs fin p (setO o.dst s env) H' nx' → ν'.nx = nx' → Holds x ν' H' w' →
      RelE ν' κ.nt (setO o.dst s (hide (pdst ops pend) env)) a'.tmps → RelD ν' dfs a'.defers →
      Lands κ.P (lone (fr κ.b a' (.inRegion ops (Region.linearise.go .any ops fuel t (M.setIfInBounds i true) []) :: k)) κ.cs w') κ.T := by
    rintro ν' w' a' s H' nx' ⟨hag, hdr⟩ hn hH hE hD
    refine ih p t (M.setIfInBounds i true) (L.setIfInBounds i true) pend qs ν' (setO o.dst s env) H' nx' w' a' hf hp ?_ hD hdr
    have hne : ∀ j ∈ pend, i ≠ j := fun j hj e => hip (e ▸ hj)
    refine ⟨by simp [hd.szM], by simp [hd.szL], fun j => ?_, fun j hj => ?_, fun j hj u hu e he hb => getD_set_true (hd.dep j hj u hu e he hb), hd.nd, hn, hH, ⟨hE.1, fun t r ht => hE.2 t r ?_⟩, fun j hj u hu => ?_, hd.dk⟩
    · by_cases e : i = j
      · subst e
        have : i < L.size := by rw [hd.szL, ← hd.szM]; exact hlt
        simp [hlt, this]
      · rw [getD_set_ne true e, getD_set_ne true e]; exact hd.both j
    · obtain ⟨h1, h2, h3⟩ := hd.pq j hj
      exact ⟨h1, h2, by rw [getD_set_ne true (hne j hj)]; exact h3⟩
    · rw [hide_get] at ht
      split at ht
      · exact absurd ht (by simp)
      · rename_i hpd
        by_cases e : o.dst = some t
        · rw [e, setO_eq] at ht ⊢
          exact ht
        · rw [setO_ne e] at ht ⊢
          rw [hide_get, if_neg hpd]
          exact ht
    · -- again
      obtain ⟨_, hjq, hjm⟩ := hd.pq j hj
      have hna : awaits o j = false := by
        cases haw : awaits o j with
        | false => rfl
        | true =>
          exfalso
          obtain ⟨e, he, hb, rfl⟩ := awaits_spec haw
          have := hall e he hb
          rw [getD_false hjm] at this
          cases this
      have key : ∀ l : List Nat, again κ.P x.gl ops (setO o.dst s env) H' nx' l → j ∈ l → again1 κ.P x.gl ops (setO o.dst s env) H' nx' u := by
        intro l
        induction l with
        | nil => intro _ h; cases h
        | cons z l ih =>
          intro hl hz
          rcases List.mem_cons.1 hz with e | hz
          · subst e
            have := hl.1
            simp only [hu] at this
            exact this
          · exact ih hl.2 hz
      rcases hrs o ho j hjq with h1 | h1 | h1
      · rw [hna] at h1; cases h1
      · exact key rs hag h1
      · obtain ⟨hpu, hlk⟩ := h1 u hu
        refine again1.pure (H := H) (nx := nx) hpu ((hd.ag j hj u hu).congr (fun d hdl => (setO_ne fun e => ?_).symm) (fun d hud => (setO_ne fun e => ?_).symm))
        · exact hlk d e hdl
        · exact (quiet_spec hB (hd.pq j hj).1 hu ho hud).2 (hne j hj) e
  rcases h with ⟨hdst, h⟩ | ⟨fz, hdst, h⟩
  · rcases guardP_sound h hd.rel hlook with ⟨hw, h⟩ | ⟨hw, h⟩
    · have h : loudP κ x κ.P x.gl o env H nx dfs fun s H' nx' => again κ.P x.gl ops (setO o.dst s env) H' nx' rs ∧ drawP κ x κ.P x.gl κ.nt ops dfs fin p (setO o.dst s env) H' nx' := h
      unfold loudP at h
      split at h
      · rename_i f args tys hop
        split at h
        case h_2 => exact h.elim
        rename_i g as hg has
        have hopn : ∀ y ∈ o.op.operands, ev x.gl env y = ev x.gl (hide (pdst ops pend) env) y := ev_of_looks (gl := x.gl) hlook
        rw [hop] at hopn
        have hfv : ev x.gl (hide (pdst ops pend) env) f = some g := by rw [← hopn f (by simp [Op.operands, Call.operands])]; exact hg
        have hav : evs x.gl (hide (pdst ops pend) env) args.toList = some as := by rw [← evs_congr (env := env) fun y hy => hopn y (by simp [Op.operands, Call.operands]; exact .inr (by simpa using hy))]; exact has
        have hcall := h (.inRegion ops (Region.linearise.go .any ops fuel t (M.setIfInBounds i true) []) :: k) (hide (pdst ops pend) env) fun s H' nx' hK ν' w' a' hn hH hE hD => next ν' w' a' s H' nx' hK hn hH hE hD
        have hc := hcall ν w _ _ hd.nxe hd.hH (ev_rel hd.hH.glOK hd.rel hfv) (evs_rel hd.hH.glOK hd.rel hav)
        have e : (List.map a.eval args.toList).toArray = Array.map a.eval args := by apply Array.ext'; simp
        rw [e] at hc
        refine lands_op_call ho hop hw κ.hk hc ?_
        rintro v w' ⟨ν', H', s, hg', hH', hs, hsat⟩
        refine hsat ν' w' _ rfl hH' (put_rel (hd.rel.grows hg') (fun d hdd => ?_) hs) (hD.grows hg')
        rw [hdd] at hdst
        exact hdst
      · rename_i hne
        rw [sop_congr (ev_of_looks (gl := x.gl) hlook), ← hd.nxe] at h
        obtain ⟨v, w', ν', s, H', hrun, hg, hH', hs, hQ⟩ := sop_sound (P := κ.P) hd.rel hd.hH h
        have hnd : ∀ c, o.op ≠ .defer c := by intro c hc; rw [hc] at h; exact h.elim
        have nx' := next ν' w' { a with tmps := put a.tmps o.dst v } s H' ν'.nx hQ rfl hH' (put_rel (hd.rel.grows hg) (fun d hdd => by rw [hdd] at hdst; exact hdst) hs) (hD.grows hg)
        rcases hrun with hrun | ⟨hrun, rfl⟩
        · exact lands_op_value ho hw hnd hrun nx'
        · exact lands_op_unit ho hw hnd hrun nx'
    · exact lands_op_skip ho hw (next ν w { a with tmps := put a.tmps o.dst undef } undefS H nx h hd.nxe hd.hH (put_rel hd.rel (fun d hdd => by rw [hdd] at hdst; exact hdst) rfl) hD)
  · rcases guardP_sound h hd.rel hlook with ⟨hw, h⟩ | ⟨hw, h⟩
    · have h : loudC κ.P x.gl fz o env H nx fun s H' nx' => again κ.P x.gl ops (setO o.dst s env) H' nx' rs ∧ drawP κ x κ.P x.gl κ.nt ops dfs fin p (setO o.dst s env) H' nx' := h
      have hR : ∃ r, OpR κ.P x ν w (execOp a.eval o) (fun s H' nx' => again κ.P x.gl ops (setO o.dst s env) H' nx' rs ∧ drawP κ x κ.P x.gl κ.nt ops dfs fin p (setO o.dst s env) H' nx') ∧ r = true := by
        cases fz with
        | true =>
          have h : R1OK _ (frzR (sop κ.P x.gl env H nx o.op)) := h
          rw [sop_congr (ev_of_looks (gl := x.gl) hlook), ← hd.nxe] at h
          exact ⟨true, sopF_sound (P := κ.P) hd.rel hd.hH h, rfl⟩
        | false =>
          have h : R1OK _ (sopC κ.P x.gl env H nx o.op) := h
          rw [sopC_congr (ev_of_looks (gl := x.gl) hlook), ← hd.nxe] at h
          exact ⟨true, sopC_sound (P := κ.P) hd.rel hd.hH h, rfl⟩
      obtain ⟨_, ⟨v, w', ν', s, H', hrun, hg, hH', hs, hQ⟩, _⟩ := hR
      have hnd : ∀ c, o.op ≠ .defer c := by
        intro c hc
        cases fz with
        | true =>
          have h : R1OK _ (frzR (sop κ.P x.gl env H nx o.op)) := h
          rw [hc] at h; exact h.elim
        | false =>
          have h : R1OK _ (sopC κ.P x.gl env H nx o.op) := h
          rw [hc] at h; exact h.elim
      have nx' := next ν' w' { a with tmps := put a.tmps o.dst v } s H' ν'.nx hQ rfl hH' (put_rel (hd.rel.grows hg) (fun d hdd => by rw [hdd] at hdst; exact hdst) hs) (hD.grows hg)
      rcases hrun with hrun | ⟨hrun, rfl⟩
      · exact lands_op_value ho hw hnd hrun nx'
      · exact lands_op_unit ho hw hnd hrun nx'
    · exact lands_op_skip ho hw (next ν w { a with tmps := put a.tmps o.dst undef } undefS H nx h hd.nxe hd.hH (put_rel hd.rel (fun d hdd => by rw [hdd] at hdst; exact hdst) rfl) hD)

theorem rsB_spec {i : Nat} {rs qs : List Nat} (hrs0 : rsB ops i rs qs = true) : ∀ u, ops[i]? = some u → ∀ j ∈ qs, awaits u j = true ∨ j ∈ rs ∨ ∀ o, ops[j]? = some o → pureOp o.op = true ∧ ∀ d, u.dst = some d → d ∉ o.looksAt ops := by
  intro u hu j hj
  rw [rsB, hu] at hrs0
  have := (List.all_eq_true.1 hrs0) j hj
  simp only [Bool.or_eq_true] at this
  rcases this with (h1 | h1) | h1
  · exact .inl h1
  · exact .inr (.inl (by simpa using h1))
  · refine .inr (.inr fun o ho => ?_)
    rw [ho] at h1
    simp only [Bool.and_eq_true] at h1
    refine ⟨h1.1, fun d hd => ?_⟩
    have h2 := h1.2
    rw [hd] at h2
    simpa using h2
/-- One of the ways that a plan leaves open. -/
theorem leaf_of {i : Nat} {qs : List Nat} {L : Array Bool} {env : Env} {H : Heap} {nx : Nat} : ∀ p : Plan, planG ops qn p true qs L = true → i ∈ p.heads → drawP κ x κ.P x.gl κ.nt ops dfs fin p env H nx →
    ∃ rs p', p.len = p'.len + 1 ∧ rsB ops i rs qs = true ∧ planB ops qn p' qs (L.setIfInBounds i true) = true ∧ drawP κ x κ.P x.gl κ.nt ops dfs fin (.l i rs p') env H nx
  | .fin, h, hi, _ => by cases hi
  | .q _ _, h, hi, _ => by cases hi
  | .l _ _ _, h, hi, _ => by cases hi
  | .c _ _ _ _, h, hi, _ => by cases hi
  | .m j rs p, h, hi, hd => by
    simp only [Plan.heads, List.mem_singleton] at hi
    subst hi
    simp only [planG, Bool.and_eq_true] at h
    exact ⟨rs, p, rfl, h.1.2, h.2, hd⟩
  | .or p q, h, hi, hd => by
    simp only [planG, Bool.and_eq_true, Bool.true_or, beq_iff_eq, true_and] at h
    simp only [Plan.heads, List.mem_append] at hi
    rcases hi with hi | hi
    · exact leaf_of p h.1.2 hi hd.1
    · obtain ⟨rs, p', h1, h2⟩ := leaf_of q h.2 hi hd.2
      exact ⟨rs, p', by simp only [Plan.len]; rw [h.1.1, h1], h2⟩
theorem leaf_len {qs : List Nat} {L : Array Bool} : ∀ p : Plan, planG ops qn p true qs L = true → 1 ≤ p.len
  | .fin, h => by simp [planG] at h
  | .q _ _, h => by simp [planG] at h
  | .l _ _ _, h => by simp [planG] at h
  | .c _ _ _ _, h => by simp [planG] at h
  | .m _ _ p, _ => by simp only [Plan.len]; omega
  | .or p q, h => by
    simp only [planG, Bool.and_eq_true] at h
    exact leaf_len p h.1.2
theorem leaf_ready {qs : List Nat} {L : Array Bool} : ∀ p : Plan, planG ops qn p true qs L = true → ∃ i, L.getD i true = false
  | .fin, h => by simp [planG] at h
  | .q _ _, h => by simp [planG] at h
  | .l _ _ _, h => by simp [planG] at h
  | .c _ _ _ _, h => by simp [planG] at h
  | .m i _ p, h => by
    simp only [planG, Bool.and_eq_true, List.contains_iff_mem] at h
    exact ⟨i, (mem_ready.1 h.1.1.1.2).1⟩
  | .or p q, h => by
    simp only [planG, Bool.and_eq_true] at h
    exact leaf_ready p h.1.2
/-- What is ready for the machine and waits for no plan is ready for the plan. -/
theorem ready_both {M L : Array Bool} {pend qs : List Nat} {ν : Nm} {env : Env} {H : Heap} {nx : Nat} {w : World} {tm : Array Value} (hd : Pd κ ops qn M L pend qs x ν env H nx w tm) {i : Nat} (hir : i ∈ Region.ready .any ops M) (hip : i ∉ pend) : i ∈ Region.ready .any ops L := by
  obtain ⟨hm, o, ho, hall⟩ := mem_ready.1 hir
  refine mem_ready.2 ⟨?_, o, ho, fun e he hb => ?_⟩
  · cases hL : L.getD i true with
    | false => rfl
    | true =>
      rcases (hd.both i).1 hL with h1 | h1
      · rw [hm] at h1; cases h1
      · exact absurd h1 hip
  · have h1 := hall e he hb
    have hlt : e.on < M.size := by
      rcases Nat.lt_or_ge e.on M.size with h | h
      · exact h
      · simp [Array.getElem?_eq_none h] at h1
    have h2 : M.getD e.on true = true := by simp [hlt] at h1 ⊢; exact h1
    have h3 := (hd.both e.on).2 (.inl h2)
    have hlt2 : e.on < L.size := by rw [hd.szL, ← hd.szM]; exact hlt
    simp [hlt2] at h3 ⊢; exact h3
/-- While a plan has one to carry out, one is ready. -/
theorem ready_left (hB : quietB ops qn = true) {M L : Array Bool} {pend qs : List Nat} {ν : Nm} {env : Env} {H : Heap} {nx : Nat} {w : World} {tm : Array Value} (hd : Pd κ ops qn M L pend qs x ν env H nx w tm) {t i0 : Nat} (h0 : L.getD i0 true = false) (hi : (Region.ready .any ops M)[t % (Region.ready .any ops M).length]? = none) : False := by
  have hr : Region.ready .any ops M = [] := by
    cases hr : Region.ready .any ops M with
    | nil => rfl
    | cons y ys =>
      rw [hr] at hi
      have hlt : t % (y :: ys).length < (y :: ys).length := Nat.mod_lt _ (by simp)
      rw [List.getElem?_eq_none_iff] at hi
      omega
  have hall := ready_some hB hd.szM hr
  have := (hd.both i0).2 (.inl (hall i0))
  rw [h0] at this
  cases this

theorem go_step {fuel t : Nat} {M : Array Bool} : Region.linearise.go .any ops (fuel + 1) t M [] = match (Region.ready .any ops M)[t % (Region.ready .any ops M).length]? with
    | some i => Region.linearise.go .any ops fuel (t / (Region.ready .any ops M).length) (M.setIfInBounds i true) [i]
    | none => [] := by
  simp only [Region.linearise.go]
  rfl

/-- THE WALK OF A PLAN SERVES EVERY ORDER. -/
theorem walk_sound (hB : quietB ops qn = true) (hfin : ∀ env H nx, fin env H nx → Sat κ x ⟨k, env, H, nx, dfs⟩) : ∀ (fuel : Nat) (p : Plan), WalkAt κ x ops qn dfs fin k fuel p := by
  intro fuel
  induction fuel with
  | zero =>
    intro p t M L pend qs ν env H nx w a hf hp hd hD h
    cases p with
    | fin =>
      have hpe : pend = [] := List.eq_nil_of_length_eq_zero (by simp only [Plan.len] at hf; omega)
      subst hpe
      refine lands_region_end (hfin _ _ _ h ν w a hd.nxe hd.hH ⟨hd.rel.1, fun t s ht => hd.rel.2 t s ?_⟩ hD)
      rw [hide_get]; exact ht
    | q i p => simp only [Plan.len] at hf; omega
    | l i p => simp only [Plan.len] at hf; omega
    | c f i p => simp only [Plan.len] at hf; omega
    | m i p => simp only [Plan.len] at hf; omega
    | or p q =>
      simp only [planB, planG, Bool.and_eq_true] at hp
      have := leaf_len p hp.1.2
      simp only [Plan.len] at hf; omega
  | succ fuel ih =>
    intro p
    induction p with
    | q i p ihp =>
      intro t M L pend qs ν env H nx w a hf hp hd hD h
      simp only [planB, planG, Bool.not_false, Bool.true_and, Bool.and_eq_true, List.contains_iff_mem] at hp
      obtain ⟨⟨hr, hq⟩, hp⟩ := hp
      obtain ⟨hm, o, ho, hall⟩ := mem_ready.1 hr
      simp only [drawP, ho] at h
      obtain ⟨hdst, h⟩ := h
      have hMi : M.getD i true = false := by
        cases e : M.getD i true with
        | false => rfl
        | true => rw [(hd.both i).2 (.inl e)] at hm; cases hm
      have hip : i ∉ pend := fun e => by rw [(hd.both i).2 (.inr e)] at hm; cases hm
      have hiL : i < L.size := by rw [hd.szL]; exact (Array.getElem?_eq_some_iff.1 ho).1
      have hown : ∀ d, o.dst = some d → d ∉ o.looksAt ops := fun d hd' hl => ((quiet_spec hB hq ho ho hd').1 hl).1 rfl
      have next : ∀ s, drawP κ x κ.P x.gl κ.nt ops dfs fin p (setO o.dst s env) H nx → again1 κ.P x.gl ops (setO o.dst s env) H nx o →
          Lands κ.P (lone (fr κ.b a (.inRegion ops (Region.linearise.go .any ops (fuel + 1) t M []) :: k)) κ.cs w) κ.T := by
        intro s hdr hag
        refine ihp t M (L.setIfInBounds i true) (i :: pend) (i :: qs) ν (setO o.dst s env) H nx w a (by simp only [Plan.len, List.length_cons] at hf ⊢; omega) hp ?_ hD hdr
        refine ⟨hd.szM, by simp [hd.szL], fun j => ?_, fun j hj => ?_, fun j hj u hu e he hb => ?_, List.nodup_cons.2 ⟨hip, hd.nd⟩, hd.nxe, hd.hH, ⟨hd.rel.1, fun t r ht => hd.rel.2 t r ?_⟩, fun j hj u hu => ?_, fun j hj u hu => ?_⟩
        · by_cases e : i = j
          · subst e; simp [hiL]
          · rw [getD_set_ne true e, hd.both j, List.mem_cons]
            exact ⟨fun h => h.elim .inl fun h => .inr (.inr h), fun h => h.elim .inl fun h => h.elim (fun h => absurd h.symm e) .inr⟩
        · rcases List.mem_cons.1 hj with rfl | hj
          · exact ⟨hq, List.mem_cons_self .., hMi⟩
          · obtain ⟨h1, h2, h3⟩ := hd.pq j hj
            exact ⟨h1, List.mem_cons_of_mem _ h2, h3⟩
        · rcases List.mem_cons.1 hj with rfl | hj
          · rw [ho] at hu
            simp only [Option.some.injEq] at hu
            subst hu
            exact getD_set_true (hall e he hb)
          · exact getD_set_true (hd.dep j hj u hu e he hb)
        · rw [hide_get] at ht ⊢
          split at ht
          · exact absurd ht (by simp)
          · rename_i hpd
            have h1 : o.dst ≠ some t := fun e => hpd (by simp [pdst, ho, e])
            have h2 : pdst ops pend t = false := by
              cases e : pdst ops pend t with
              | false => rfl
              | true => exact absurd (by simp only [pdst, List.any_cons, Bool.or_eq_true]; exact .inr e) hpd
            rw [setO_ne h1] at ht
            rw [h2]; exact ht
        · rcases List.mem_cons.1 hj with rfl | hj
          · rw [ho] at hu
            simp only [Option.some.injEq] at hu
            subst hu
            exact hag
          · have hne : i ≠ j := fun e => hip (e ▸ hj)
            refine (hd.ag j hj u hu).congr (fun d hdl => (setO_ne fun e => ?_).symm) (fun d hud => (setO_ne fun e => ?_).symm)
            · obtain ⟨_, h2⟩ := (quiet_spec hB hq ho hu e).1 hdl
              obtain ⟨e2, he, hb, h3⟩ := awaits_spec h2
              have := hd.dep j hj u hu e2 he hb
              rw [h3, getD_false hm] at this
              cases this
            · exact (quiet_spec hB hq ho hu e).2 (Ne.symm hne) hud
        · rcases List.mem_cons.1 hj with rfl | hj
          · rw [ho] at hu
            simp only [Option.some.injEq] at hu
            subst hu
            exact hdst
          · exact hd.dk j hj u hu
      -- the guard
      have hlk : ∀ s, ∀ d ∈ o.looksAt ops, (setO o.dst s env).get d = env.get d := fun s d hdl => setO_ne fun e => hown d e hdl
      have hrun : R1Q (fun s => drawP κ x κ.P x.gl κ.nt ops dfs fin p (setO o.dst s env) H nx) (sop κ.P x.gl env H nx o.op) → (∀ s, (R1OK (fun s' _ _ => slotIs (setO o.dst s env) s' o.dst) (sop κ.P x.gl (setO o.dst s env) H nx o.op) → again1 κ.P x.gl ops (setO o.dst s env) H nx o)) →
          Lands κ.P (lone (fr κ.b a (.inRegion ops (Region.linearise.go .any ops (fuel + 1) t M []) :: k)) κ.cs w) κ.T := by
        intro h1 h2
        obtain ⟨s, h3, h4⟩ := h1.pick
        refine next s h3 (h2 s ?_)
        rw [sop_congr (ev_of_looks (hlk s))]
        refine h4.mono ?_
        rintro s' _ _ rfl
        cases e : o.dst with
        | none => trivial
        | some d => exact setO_eq
      have hskip : slotIs (setO o.dst undefS env) undefS o.dst := by
        cases e : o.dst with
        | none => trivial
        | some d => exact setO_eq
      unfold guardP at h
      split at h
      · rename_i hg
        exact hrun h fun s h2 => by unfold again1 guardP; rw [hg]; exact h2
      · rename_i j want hg
        split at h
        case h_2 => exact h.elim
        rename_i d hgd
        have hdl := guard_looks hg hgd
        split at h
        · rename_i tb htb
          by_cases e : tb = want
          · refine hrun (h.1 e) fun s h2 => ?_
            unfold again1 guardP
            rw [hg]
            simp only [hgd, hlk s d hdl, htb]
            exact ⟨fun _ => h2, fun e2 => by subst e; cases tb <;> simp at e2⟩
          · have e2 : tb = !want := by cases tb <;> cases want <;> simp_all
            refine next undefS (h.2 e2) ?_
            unfold again1 guardP
            rw [hg]
            simp only [hgd, hlk undefS d hdl, htb]
            exact ⟨fun e3 => absurd e3 e, fun _ => hskip⟩
        · rename_i tb htb
          refine next undefS h ?_
          unfold again1 guardP
          rw [hg]
          simp only [hgd, hlk undefS d hdl, htb]
          exact hskip
        · exact h.elim
    | fin =>
      intro t M L pend qs ν env H nx w a hf hp hd hD h
      rw [go_step]
      cases hi : (Region.ready .any ops M)[t % (Region.ready .any ops M).length]? with
      | none =>
        exfalso
        have hr : Region.ready .any ops M = [] := by
          cases hr : Region.ready .any ops M with
          | nil => rfl
          | cons y ys =>
            rw [hr] at hi
            have hlt : t % (y :: ys).length < (y :: ys).length := Nat.mod_lt _ (by simp)
            rw [List.getElem?_eq_none_iff] at hi
            omega
        have hall := ready_some hB hd.szM hr
        have hpe : pend ≠ [] := by rintro rfl; simp [Plan.len] at hf
        obtain ⟨j, hj⟩ := List.exists_mem_of_ne_nil pend hpe
        have := (hd.pq j hj).2.2
        rw [hall j] at this
        cases this
      | some i =>
        simp only []
        rw [linearise_go_acc, List.reverse_singleton, List.singleton_append]
        have hir := List.mem_of_getElem? hi
        have hip : i ∈ pend := by
          obtain ⟨hm, o, ho, _⟩ := mem_ready.1 hir
          simp only [planB, planG, Bool.not_false, Bool.true_and, Bool.and_eq_true, Array.all_eq_true] at hp
          have hlt : i < L.size := by rw [hd.szL]; exact (Array.getElem?_eq_some_iff.1 ho).1
          have hL : L.getD i true = true := by
            have := hp.2 i hlt
            simp [hlt]; simpa using this
          rcases (hd.both i).1 hL with h1 | h1
          · rw [hm] at h1; cases h1
          · exact h1
        exact walk_pending hB ih (by simpa using hf) hp hd hD h hir hip
    | l i0 rs p ihp =>
      intro t M L pend qs ν env H nx w a hf hp hd hD h
      rw [go_step]
      have hpB := hp
      simp only [planB, planG, Bool.not_false, Bool.true_and, Bool.and_eq_true, beq_iff_eq] at hp
      obtain ⟨⟨⟨hrL, hnq⟩, hrs0⟩, hp⟩ := hp
      have hrs := rsB_spec hrs0
      cases hi : (Region.ready .any ops M)[t % (Region.ready .any ops M).length]? with
      | none =>
        exfalso
        have hr : Region.ready .any ops M = [] := by
          cases hr : Region.ready .any ops M with
          | nil => rfl
          | cons y ys =>
            rw [hr] at hi
            have hlt : t % (y :: ys).length < (y :: ys).length := Nat.mod_lt _ (by simp)
            rw [List.getElem?_eq_none_iff] at hi
            omega
        have hall := ready_some hB hd.szM hr
        have h0 : i0 ∈ Region.ready .any ops L := by rw [hrL]; simp
        obtain ⟨hm, _⟩ := mem_ready.1 h0
        have := (hd.both i0).2 (.inl (hall i0))
        rw [hm] at this
        cases this
      | some i =>
        simp only []
        rw [linearise_go_acc, List.reverse_singleton, List.singleton_append]
        have hir := List.mem_of_getElem? hi
        by_cases hip : i ∈ pend
        · exact walk_pending hB ih (by simpa using hf) hpB hd hD h hir hip
        · have : i ∈ Region.ready .any ops L := by
            obtain ⟨hm, o, ho, hall⟩ := mem_ready.1 hir
            refine mem_ready.2 ⟨?_, o, ho, fun e he hb => ?_⟩
            · cases hL : L.getD i true with
              | false => rfl
              | true =>
                rcases (hd.both i).1 hL with h1 | h1
                · rw [hm] at h1; cases h1
                · exact absurd h1 hip
            · have h1 := hall e he hb
              have hlt : e.on < M.size := by
                rcases Nat.lt_or_ge e.on M.size with h | h
                · exact h
                · simp [Array.getElem?_eq_none h] at h1
              have h2 : M.getD e.on true = true := by simp [hlt] at h1 ⊢; exact h1
              have h3 := (hd.both e.on).2 (.inl h2)
              have hlt2 : e.on < L.size := by rw [hd.szL, ← hd.szM]; exact hlt
              simp [hlt2] at h3 ⊢; exact h3
          rw [hrL, List.mem_singleton] at this
          subst this
          exact walk_loud hB ih hrs (by simp only [Plan.len] at hf; omega) hp hd hD (.inl h) hir hip
    | c f0 i0 rs p ihp =>
      intro t M L pend qs ν env H nx w a hf hp hd hD h
      rw [go_step]
      have hpB := hp
      simp only [planB, planG, Bool.not_false, Bool.true_and, Bool.and_eq_true, beq_iff_eq] at hp
      obtain ⟨⟨⟨hrL, hnq⟩, hrs0⟩, hp⟩ := hp
      have hrs := rsB_spec hrs0
      cases hi : (Region.ready .any ops M)[t % (Region.ready .any ops M).length]? with
      | none =>
        exfalso
        have hr : Region.ready .any ops M = [] := by
          cases hr : Region.ready .any ops M with
          | nil => rfl
          | cons y ys =>
            rw [hr] at hi
            have hlt : t % (y :: ys).length < (y :: ys).length := Nat.mod_lt _ (by simp)
            rw [List.getElem?_eq_none_iff] at hi
            omega
        have hall := ready_some hB hd.szM hr
        have h0 : i0 ∈ Region.ready .any ops L := by rw [hrL]; simp
        obtain ⟨hm, _⟩ := mem_ready.1 h0
        have := (hd.both i0).2 (.inl (hall i0))
        rw [hm] at this
        cases this
      | some i =>
        simp only []
        rw [linearise_go_acc, List.reverse_singleton, List.singleton_append]
        have hir := List.mem_of_getElem? hi
        by_cases hip : i ∈ pend
        · exact walk_pending hB ih (by simpa using hf) hpB hd hD h hir hip
        · have : i ∈ Region.ready .any ops L := by
            obtain ⟨hm, o, ho, hall⟩ := mem_ready.1 hir
            refine mem_ready.2 ⟨?_, o, ho, fun e he hb => ?_⟩
            · cases hL : L.getD i true with
              | false => rfl
              | true =>
                rcases (hd.both i).1 hL with h1 | h1
                · rw [hm] at h1; cases h1
                · exact absurd h1 hip
            · have h1 := hall e he hb
              have hlt : e.on < M.size := by
                rcases Nat.lt_or_ge e.on M.size with h | h
                · exact h
                · simp [Array.getElem?_eq_none h] at h1
              have h2 : M.getD e.on true = true := by simp [hlt] at h1 ⊢; exact h1
              have h3 := (hd.both e.on).2 (.inl h2)
              have hlt2 : e.on < L.size := by rw [hd.szL, ← hd.szM]; exact hlt
              simp [hlt2] at h3 ⊢; exact h3
          rw [hrL, List.mem_singleton] at this
          subst this
          exact walk_loud hB ih hrs (by simp only [Plan.len] at hf; omega) hp hd hD (.inr ⟨_, h⟩) hir hip
    | m i0 rs p ihp =>
      intro t M L pend qs ν env H nx w a hf hp hd hD h
      simp [planB, planG] at hp
    | or p q ihp ihq =>
      intro t M L pend qs ν env H nx w a hf hp hd hD h
      rw [go_step]
      have hpB := hp
      simp only [planB, planG, Bool.false_or, Bool.and_eq_true, beq_iff_eq, List.all_eq_true, List.contains_iff_mem] at hp
      obtain ⟨⟨⟨hall, hlen⟩, hp1⟩, hp2⟩ := hp
      cases hi : (Region.ready .any ops M)[t % (Region.ready .any ops M).length]? with
      | none =>
        obtain ⟨i0, h0⟩ := leaf_ready p hp1
        exact (ready_left hB hd h0 hi).elim
      | some i =>
        simp only []
        rw [linearise_go_acc, List.reverse_singleton, List.singleton_append]
        have hir := List.mem_of_getElem? hi
        by_cases hip : i ∈ pend
        · exact walk_pending hB ih (by simpa using hf) hpB hd hD h hir hip
        · have h1 : planG ops qn (.or p q) true qs L = true := by
            simp only [planG, Bool.true_or, Bool.true_and, Bool.and_eq_true, beq_iff_eq]
            exact ⟨⟨hlen, hp1⟩, hp2⟩
          obtain ⟨rs, p', g1, g2, g3, g4⟩ := leaf_of (.or p q) h1 (hall i (ready_both hd hir hip)) h
          exact walk_loud hB ih (rsB_spec g2) (by omega) g3 hd hD (.inl g4) hir hip

/-- A STATEMENT THAT DRAWS ITS ORDER: walked in the order of a plan. -/
theorem Sat.draw {id : Nat} {env : Env} {H : Heap} {nx : Nat} (p : Plan) (qn : List Nat) (hB : quietB ops qn = true) (hp : planB ops qn p [] (Array.replicate ops.size false) = true) (hlen : p.len = ops.size)
    (h : drawP κ x κ.P x.gl κ.nt ops dfs (fun env H nx => Sat κ x ⟨k, env, H, nx, dfs⟩) p env H nx) : Sat κ x ⟨.code (.region id ops true) :: k, env, H, nx, dfs⟩ := by
  intro ν w a hn hH hE hD
  refine lands_region_draw fun t => ?_
  simp only [Region.schedule, κ.hm, Bool.true_or, if_true]
  have hw1 : Holds x ν H { w with drawn := w.drawn + 1 } := hH.same rfl ⟨rfl, rfl, rfl⟩
  refine walk_sound hB (fun env H nx h => h) ops.size p t _ (Array.replicate ops.size false) [] [] ν env H nx _ a (by simp [hlen]) hp ?_ hD h
  refine ⟨by simp, by simp, fun i => by simp, fun j hj => by simp at hj, fun j hj => by simp at hj, List.nodup_nil, hn, hw1, ⟨hE.1, fun t s ht => hE.2 t s ?_⟩, fun j hj => by simp at hj, fun j hj => by simp at hj⟩
  rw [hide_get] at ht
  simpa [pdst] using ht
end
end Go.Sy

/- Blocks lent to a call, to be read; blocks that nobody writes from now on. No condition. -/
import Derived.Test.YtmieikflcolbaaaSyH
namespace Go.Sy
open Go
set_option linter.unusedSimpArgs false
set_option linter.unusedVariables false
def lendSl (b : Option Blk) (id sz off len cap : Nat) : SV := match b with
  | some (.row s _ _ xs) => if s = sz then .rd sz ((xs.drop off).take len) else .sl id sz off len cap
  | _ => .sl id sz off len cap
def lendSlP (b : Option Blk) (sz off len cap : Nat) : Prop := match b with
  | some (.row s c _ xs) => if s = sz then off + len ≤ xs.length ∧ len ≤ cap ∧ (0 < cap → c ≠ 0) else True
  | _ => True
mutual
def lendS (H : Heap) (V : List Nat) : SV → SV
  | .sl id sz off len cap => if id ∈ V then lendSl (H.get id) id sz off len cap else .sl id sz off len cap
  | .fn f a b => .fn f (lendL H V a) (lendL H V b)
  | .agg l => .agg (lendL H V l)
  | .tup l => .tup (lendL H V l)
  | .v x => .v x
  | .ptr id sz e r => .ptr id sz e r
  | .rd sz xs => .rd sz xs
  | .rp x r => .rp x r
  | .arr sz xs => .arr sz xs
  | .mp id => .mp id
  | .yl id => .yl id
def lendL (H : Heap) (V : List Nat) : List SV → List SV
  | [] => []
  | x :: l => lendS H V x :: lendL H V l
end
mutual
def lendP (H : Heap) (V : List Nat) : SV → Prop
  | .sl id sz off len cap => if id ∈ V then lendSlP (H.get id) sz off len cap else True
  | .fn _ a b => lendPL H V a ∧ lendPL H V b
  | .agg l => lendPL H V l
  | .tup l => lendPL H V l
  | .v _ | .ptr .. | .rd .. | .rp .. | .arr .. | .mp _ | .yl _ => True
def lendPL (H : Heap) (V : List Nat) : List SV → Prop
  | [] => True
  | x :: l => lendP H V x ∧ lendPL H V l
end
def Nm.lend (ν : Nm) (L : Nat → Option (Array Value)) : Nm := ⟨ν.nx, ν.blk, fun k => match ν.ro k with | some c => some c | none => L k⟩
theorem Grows.lend (ν : Nm) (L : Nat → Option (Array Value)) : Grows ν (ν.lend L) := ⟨Nat.le_refl _, fun _ _ => rfl, fun k c h => by simp [Nm.lend, h]⟩
def lentBy (ν : Nm) (H : Heap) (w : World) (V : List Nat) (L : Nat → Option (Array Value)) : Prop :=
  ∀ k c, L k = some c ↔ (∃ id s cap T xs, id ∈ V ∧ H.get id = some (.row s cap T xs) ∧ cap ≠ 0 ∧ ν.blk id = k) ∧ ∃ T fz, w.heap[k]? = some (.cells c T fz)
theorem lentBy_ex (ν : Nm) (H : Heap) (w : World) (V : List Nat) : ∃ L, lentBy ν H w V L := by
  refine ⟨fun k => @ite _ (∃ id s cap T xs, id ∈ V ∧ H.get id = some (.row s cap T xs) ∧ cap ≠ 0 ∧ ν.blk id = k) (Classical.propDecidable _) (match w.heap[k]? with | some (.cells c _ _) => some c | _ => none) none, fun k c => ?_⟩
  by_cases hp : ∃ id s cap T xs, id ∈ V ∧ H.get id = some (.row s cap T xs) ∧ cap ≠ 0 ∧ ν.blk id = k
  · simp only [hp, if_true, true_and]
    cases hk : w.heap[k]? with
    | none => simp
    | some o => cases o <;> simp
  · simp only [hp, if_false, false_and, iff_false]
    simp
mutual
theorem lendS_rel {x : Ctx} {ν : Nm} {H : Heap} {w : World} {V : List Nat} {L : Nat → Option (Array Value)} (hH : Holds x ν H w) (hL : lentBy ν H w V L) : ∀ (s : SV) (y : Value), lendP H V s → Rel ν s y → Rel (ν.lend L) (lendS H V s) y
  | .v _, y, _, h => h.grows (.lend ν L)
  | .ptr .., y, _, h => h.grows (.lend ν L)
  | .rd .., y, _, h => h.grows (.lend ν L)
  | .rp .., y, _, h => h.grows (.lend ν L)
  | .arr .., y, _, h => h.grows (.lend ν L)
  | .mp _, y, _, h => h.grows (.lend ν L)
  | .yl _, y, _, h => h.grows (.lend ν L)
  | .fn f a b, y, hp, h => by
    simp only [lendP] at hp
    simp only [Rel, lendS] at h ⊢
    obtain ⟨fs, cs, h1, h2, h3⟩ := h
    exact ⟨fs, cs, h1, lendL_rel hH hL _ _ hp.1 h2, lendL_rel hH hL _ _ hp.2 h3⟩
  | .agg l, y, hp, h => by
    simp only [lendP] at hp
    simp only [Rel, lendS] at h ⊢
    obtain ⟨c, h1, h2⟩ := h
    exact ⟨c, h1, lendL_rel hH hL _ _ hp h2⟩
  | .tup l, y, hp, h => by
    simp only [lendP] at hp
    simp only [Rel, lendS] at h ⊢
    obtain ⟨c, h1, h2⟩ := h
    exact ⟨c, h1, lendL_rel hH hL _ _ hp h2⟩
  | .sl id sz off len cap, y, hp, h => by
    simp only [lendS]
    split
    case isFalse => exact h.grows (.lend ν L)
    rename_i hid
    simp only [lendP, hid, if_true] at hp
    unfold lendSl
    unfold lendSlP at hp
    split
    case h_2 => exact h.grows (.lend ν L)
    rename_i s c T xs hb
    rw [hb] at hp
    simp only at hp
    split
    case isFalse => exact h.grows (.lend ν L)
    rename_i hs
    subst hs
    simp only [if_true] at hp
    obtain ⟨p1, p2, p3⟩ := hp
    simp only [Rel] at h ⊢
    obtain ⟨_, a, rfl, ha⟩ := h
    obtain ⟨_, hnc, hrows, ys, hrel, hones, hrow⟩ := hH.ok id _ hb
    have hlen : ((xs.drop off).take len).length = len := by simp; omega
    have hyl := hrel.length hrows
    have hle : off * s + len * s ≤ ys.length := by rw [hyl, ← Nat.add_mul]; exact Nat.mul_le_mul_right _ p1
    refine ⟨a, cap, (ys.drop (off * s)).take (len * s), by rw [hlen], by rw [hlen]; exact p2, (hrows.drop _).take _, ((hrel.drop hrows _).take (hrows.drop _) _).grows (Grows.lend ν L).free, fun v hv => hones v (List.mem_of_mem_drop (List.mem_of_mem_take hv)), fun hne => ?_⟩
    rw [hlen] at hne
    have hcap : 0 < cap := by omega
    have hc0 := p3 hcap
    obtain ⟨cc, h1, h2, h3⟩ := hrow hc0
    refine ⟨ν.blk id, off * s, cc, ha hcap, ?_, fun j hj => ?_⟩
    · simp only [Nm.lend]
      rw [hH.rosep id _ hb hc0]
      exact (hL _ _).2 ⟨⟨id, s, c, T, xs, hid, hb, hc0, rfl⟩, T, _, h1⟩
    · simp only [List.length_take, List.length_drop] at hj
      rw [List.getElem?_take_of_lt (by omega), List.getElem?_drop, h3 _ (by omega)]
theorem lendL_rel {x : Ctx} {ν : Nm} {H : Heap} {w : World} {V : List Nat} {L : Nat → Option (Array Value)} (hH : Holds x ν H w) (hL : lentBy ν H w V L) : ∀ (s : List SV) (y : List Value), lendPL H V s → RelL ν s y → RelL (ν.lend L) (lendL H V s) y
  | [], y, _, h => by simpa [RelL, lendL] using h
  | a :: l, y, hp, h => by
    simp only [lendPL] at hp
    simp only [RelL, lendL] at h ⊢
    obtain ⟨y0, ys, h1, h2, h3⟩ := h
    exact ⟨y0, ys, h1, lendS_rel hH hL _ _ hp.1 h2, lendL_rel hH hL _ _ hp.2 h3⟩
end
theorem Holds.freeze {x : Ctx} {ν : Nm} {H H' : Heap} {w : World} {V : List Nat} {L : Nat → Option (Array Value)} (hH : Holds x ν H w) (hL : lentBy ν H w V L) (hh : ∀ i b, H'.get i = some b → i ∉ V ∧ H.get i = some b) : Holds x (ν.lend L) H' w where
  ok i b hb := (hH.ok i b (hh i b hb).2).keep (.lend ν L) (fun _ => rfl)
  sep i b j c hb hc := hH.sep i b j c (hh i b hb).2 (hh j c hc).2
  mine i b hb := hH.mine i b (hh i b hb).2
  ro k c hk := by
    simp only [Nm.lend] at hk
    cases hr : ν.ro k with
    | some d => rw [hr] at hk; simp only [Option.some.injEq] at hk; subst hk; exact hH.ro k d hr
    | none => rw [hr] at hk; exact ((hL k c).1 hk).2
  rosep i b hb he := by
    obtain ⟨hiV, hb⟩ := hh i b hb
    show (match ν.ro (ν.blk i) with | some c => some c | none => L (ν.blk i)) = none
    rw [hH.rosep i b hb he]
    show L (ν.blk i) = none
    cases hl : L (ν.blk i) with
    | none => rfl
    | some c =>
      obtain ⟨⟨id, s, cap, T, xs, h1, h2, h3, h4⟩, _⟩ := (hL _ c).1 hl
      exact absurd h4 (hH.sep id _ i b h2 hb (fun e => hiV (e ▸ h1)) h3 he)
  ronew k c hk := by
    simp only [Nm.lend] at hk
    cases hr : ν.ro k with
    | some d => rw [hr] at hk; simp only [Option.some.injEq] at hk; subst hk; exact hH.ronew k d hr
    | none =>
      rw [hr] at hk
      obtain ⟨⟨id, s, cap, T, xs, h1, h2, h3, rfl⟩, _⟩ := (hL k c).1 hk
      exact .inr (hH.mine id _ h2 h3)
  gl g l h := (Grows.lend ν L).2.2 _ _ (hH.gl g l h)
  frame := hH.frame
  size := hH.size
  fix := hH.fix
  anc := hH.anc.trans (.lend ν L)
theorem Sat.frz {κ : Kx} {x : Ctx} {k : List Item} {env : Env} {H : Heap} {nx : Nat} {dfs : List Nat} (V : List Nat) (t : Nat) (s : SV) (ht : env.get t = some s) (hp : lendP H V s)
    (h : Sat κ x ⟨k, (t, lendS H V s) :: env, without V H, nx, dfs⟩) : Sat κ x ⟨k, env, H, nx, dfs⟩ := by
  intro ν w a hn hH hE hD
  obtain ⟨L, hL⟩ := lentBy_ex ν H w V
  obtain ⟨y, h1, h2⟩ := hE.2 t s ht
  exact h (ν.lend L) w a hn (hH.freeze hL fun i b hb => without_get hb) ((hE.grows (.lend ν L)).know h1 (lendS_rel hH hL _ _ hp h2)) (hD.grows (.lend ν L))
theorem Post.frz {m : Nat} {Q : SV → Heap → Nat → Prop} {s : SV} {H : Heap} {nx : Nat} (V : List Nat) (hp : lendP H V s) (h : Post m Q (lendS H V s) (without V H) nx) : Post m Q s H nx := by
  intro x ν ν' w v hx hm hn hg hH hv
  obtain ⟨L, hL⟩ := lentBy_ex ν' H w V
  exact h x ν (ν'.lend L) w v hx hm hn (hg.trans (.lend ν' L)) (hH.freeze hL fun i b hb => without_get hb) (lendS_rel hH hL _ _ hp hv)
mutual
def SV.plain : SV → Prop
  | .v _ | .ptr .. | .sl .. | .mp _ | .yl _ => True
  | .rd .. | .rp .. | .arr .. => False
  | .fn _ a b => SV.plainL a ∧ SV.plainL b
  | .agg l => SV.plainL l
  | .tup l => SV.plainL l
def SV.plainL : List SV → Prop
  | [] => True
  | x :: l => SV.plain x ∧ SV.plainL l
end
mutual
theorem Rel.plain {ν ν' : Nm} (h1 : ν'.nx = ν.nx) (h2 : ν'.blk = ν.blk) : ∀ (s : SV) (y : Value), s.plain → Rel ν s y → Rel ν' s y
  | .v _, y, _, h => h
  | .ptr .., y, _, h => by simp only [Rel] at h ⊢; rw [h1, h2]; exact h
  | .sl .., y, _, h => by simp only [Rel] at h ⊢; rw [h1, h2]; exact h
  | .mp _, y, _, h => by simp only [Rel] at h ⊢; rw [h1, h2]; exact h
  | .yl _, y, _, h => by simp only [Rel] at h ⊢; rw [h1, h2]; exact h
  | .fn f a b, y, hp, h => by
    simp only [Rel] at h ⊢
    obtain ⟨fs, cs, q1, q2, q3⟩ := h
    exact ⟨fs, cs, q1, RelL.plain h1 h2 _ _ hp.1 q2, RelL.plain h1 h2 _ _ hp.2 q3⟩
  | .agg l, y, hp, h => by
    simp only [Rel] at h ⊢
    obtain ⟨c, q1, q2⟩ := h
    exact ⟨c, q1, RelL.plain h1 h2 _ _ hp q2⟩
  | .tup l, y, hp, h => by
    simp only [Rel] at h ⊢
    obtain ⟨c, q1, q2⟩ := h
    exact ⟨c, q1, RelL.plain h1 h2 _ _ hp q2⟩
theorem RelL.plain {ν ν' : Nm} (h1 : ν'.nx = ν.nx) (h2 : ν'.blk = ν.blk) : ∀ (s : List SV) (y : List Value), SV.plainL s → RelL ν s y → RelL ν' s y
  | [], y, _, h => by simpa [RelL] using h
  | x :: l, y, hp, h => by
    simp only [RelL] at h ⊢
    obtain ⟨y0, ys, q1, q2, q3⟩ := h
    exact ⟨y0, ys, q1, Rel.plain h1 h2 _ _ hp.1 q2, RelL.plain h1 h2 _ _ hp.2 q3⟩
end
def plainRows (xs : List (List SV)) : Prop := ∀ x ∈ xs, SV.plainL x
theorem RelLL.plain {ν ν' : Nm} (h1 : ν'.nx = ν.nx) (h2 : ν'.blk = ν.blk) : ∀ {xs : List (List SV)} {ys : List Value}, plainRows xs → RelLL ν xs ys → RelLL ν' xs ys
  | [], _, _, h => h
  | x :: xs, ys, hp, h => by
    simp only [RelLL] at h ⊢
    obtain ⟨y, ys', q1, q2, q3⟩ := h
    exact ⟨y, ys', q1, RelL.plain h1 h2 _ _ (hp x (by simp)) q2, RelLL.plain h1 h2 (fun z hz => hp z (by simp [hz])) q3⟩
def Blk.plain : Blk → Prop
  | .own cells _ => SV.plainL cells
  | .row _ _ _ xs => plainRows xs
  | .map _ _ f => ∀ ns s, f ns = some s → s.plain
  | .loop .. => False
  | .obj _ => True
theorem BlkOK.plain {ν ν' : Nm} {w : World} {id : Nat} {b : Blk} (h1 : ν'.nx = ν.nx) (h2 : ν'.blk = ν.blk) (hp : b.plain) (h : BlkOK ν w id b) : BlkOK ν' w id b := by
  have hf : ν'.free.nx = ν.free.nx := rfl
  have hb : ν'.free.blk = ν.free.blk := h2
  cases b with
  | own cells T =>
    obtain ⟨q0, c, q1, q2⟩ := h
    exact ⟨by rw [h1]; exact q0, c, by rw [h2]; exact q1, q2.plain h1 h2 _ _ hp⟩
  | row sz cap T xs =>
    obtain ⟨q0, q1, q2, ys, q3, q4, q5⟩ := h
    exact ⟨by rw [h1]; exact q0, q1, q2, ys, q3.plain hf hb hp, q4, by rw [h2]; exact q5⟩
  | map ag ks f =>
    obtain ⟨q0, es, clock, q1, q2⟩ := h
    exact ⟨by rw [h1]; exact q0, es, clock, by rw [h2]; exact q1, ⟨q2.one, fun e he => let ⟨ns, s, r1, r2, r3, r4⟩ := q2.in_ e he; ⟨ns, s, r1, r2, r3, Rel.plain hf hb _ _ (hp ns s r3) r4⟩, q2.out, q2.nd⟩⟩
  | loop => exact hp.elim
  | obj o =>
    obtain ⟨q0, q1, q2⟩ := h
    exact ⟨by rw [h1]; exact q0, q1, by rw [h2]; exact q2⟩
theorem Holds.unlend {gl : Gl} {S : Nat → Prop} {ν0 ν' : Nm} {H' : Heap} {w w' : World} {L : Nat → Option (Array Value)} (h : Holds ⟨w, S, ν0.lend L, gl⟩ ν' H' w') (hgl : GlOK gl ν0) (hp : ∀ i b, H'.get i = some b → b.plain) :
    ∃ ν'', ν''.nx = ν'.nx ∧ ν''.blk = ν'.blk ∧ Holds ⟨w, S, ν0, gl⟩ ν'' H' w' := by
  obtain ⟨rr, hrr⟩ : ∃ rr : Nat → Option (Array Value), ∀ k, rr k = @ite _ (ν0.ro k = none ∧ L k ≠ none) (Classical.propDecidable _) none (ν'.ro k) := ⟨_, fun _ => rfl⟩
  have hsub : ∀ k c, rr k = some c → ν'.ro k = some c := by
    intro k c hk
    rw [hrr] at hk
    split at hk
    · cases hk
    · exact hk
  have hkeep : ∀ k c, ν0.ro k = some c → rr k = some c := by
    intro k c hk
    rw [hrr, if_neg (by rw [hk]; simp)]
    exact h.anc.2.2 k c ((Grows.lend ν0 L).2.2 k c hk)
  refine ⟨⟨ν'.nx, ν'.blk, rr⟩, rfl, rfl, ⟨fun i b hb => BlkOK.plain (ν := ν') (ν' := ⟨ν'.nx, ν'.blk, rr⟩) rfl rfl (hp i b hb) (h.ok i b hb), h.sep, h.mine, fun k c hk => h.ro k c (hsub k c hk), fun i b hb he => ?_, fun k c hk => ?_, fun g l hg => hkeep _ _ (hgl g l hg), h.frame, h.size, h.fix, ⟨h.anc.1, h.anc.2.1, hkeep⟩⟩⟩
  · show rr (ν'.blk i) = none
    cases hr : rr (ν'.blk i) with
    | none => rfl
    | some c => have := hsub _ _ hr; rw [h.rosep i b hb he] at this; cases this
  · have hk : rr k = some c := hk
    rcases h.ronew k c (hsub k c hk) with h1 | h1
    · left
      show ν0.ro k = some c
      cases h2 : ν0.ro k with
      | some d =>
        have : (ν0.lend L).ro k = some d := by simp [Nm.lend, h2]
        have h1 : (ν0.lend L).ro k = some c := h1
        rw [this] at h1; exact h1
      | none =>
        exfalso
        have h1 : (ν0.lend L).ro k = some c := h1
        simp only [Nm.lend, h2] at h1
        rw [hrr, if_pos ⟨h2, by rw [h1]; simp⟩] at hk
        cases hk
    · exact .inr h1
theorem Does.lend {P0 : Program} {x : Ctx} {f : SV} {args : List SV} {nx : Nat} {H : Heap} {K : SV → Heap → Nat → Prop} {P : Program} {gl : Gl} (hP : P0 = P) (hgl : x.gl = gl) (V : List Nat) (m : Nat) (σ : Nat → Nat) (l : List Nat) (f0 : SV) (args0 : List SV) (H0 : Heap) {Q : SV → Heap → Nat → Prop}
    (h : Con P gl f0 args0 m H0 Q) (hf : lendS H V f = f0.ren σ) (hargs : lendL H V args = SV.renL σ args0) (hpf : lendP H V f) (hpa : lendPL H V args) (hbf : f0.bnd m) (hba : SV.bndL m args0) (hσ : ∀ i, i < m → σ i < nx) (hinj : ∀ i j, i < m → j < m → σ i = σ j → i = j)
    (hv : ∀ i b, H0.get i = some b → i < m ∧ b.bnd m ∧ σ i ∈ l ∧ σ i ∉ V ∧ H.get (σ i) = some (b.ren σ))
    (next : ∀ s H' n', Q s H' n' → Once H' ∧ s.plain ∧ (∀ i b, H'.get i = some b → b.plain) ∧ (m ≤ n' → K (s.ren (tau m nx σ)) (renH (tau m nx σ) H' ++ without l H) (nx + (n' - m)))) : Does P0 x f args nx H K := by
  intro ν w fv vs hn hH hfv hvs
  subst hP hgl
  obtain ⟨L, hL⟩ := lentBy_ex ν H w V
  have hfr : Holds x (ν.lend L) (without V H) w := hH.freeze hL fun i b hb => without_get hb
  have hget : ∀ i b, H0.get i = some b → (without V H).get (σ i) = some (b.ren σ) := by
    intro i b hb
    obtain ⟨_, _, _, h4, h5⟩ := hv i b hb
    have key : ∀ (H : Heap), H.get (σ i) = some (b.ren σ) → (without V H).get (σ i) = some (b.ren σ) := by
      intro H
      induction H with
      | nil => intro h; exact h
      | cons p H ih =>
        obtain ⟨j, c⟩ := p
        intro h
        simp only [Heap.get] at h
        simp only [without]
        split at h
        · rename_i e
          rw [if_neg (by rw [e]; exact h4)]
          simp [Heap.get, e]; simpa using h
        · rename_i e
          split
          · exact ih h
          · simp only [Heap.get, e, if_false]; exact ih h
    exact key _ h5
  have hH2 := hfr.hand (H2 := H0) hinj (fun i b hb => ⟨(hv i b hb).1, (hv i b hb).2.1, hget i b hb⟩)
  have hf2 := lendS_rel hH hL f fv hpf hfv
  have ha2 := lendL_rel hH hL args vs hpa hvs
  rw [hf] at hf2
  rw [hargs] at ha2
  refine (h ((ν.lend L).via m σ) w fv vs rfl hH2 (hf2.via _ _ hbf) (ha2.via _ _ hba)).mono ?_
  rintro v w' ⟨ν', s, H', hq, hgr, hH', hs⟩
  obtain ⟨honce, hsp, hHp, hsat⟩ := next s H' _ hq
  have e1 : (ν.lend L).via m σ = (ν.via m σ).lend L := rfl
  have hfeet : feet ((ν.lend L).via m σ) H0 = feet (ν.via m σ) H0 := rfl
  obtain ⟨ν1, n1, n2, hH1⟩ := Holds.unlend (gl := x.gl) (S := feet (ν.via m σ) H0) (ν0 := ν.via m σ) (L := L) hH' hH.gl hHp
  have hs1 : Rel ν1 s v := Rel.plain n1 n2 s v hsp hs
  obtain ⟨ν'', h1, h2, h3, h4⟩ := hH.back (hn ▸ hσ) (fun i b hb => ⟨(hv i b hb).1, (hv i b hb).2.2.1, (hv i b hb).2.2.2.2⟩) hH1.anc hH1 honce
  rw [hn] at h1 h3 h4
  have hle : m ≤ ν'.nx := hgr.1
  exact ⟨ν'', _, _, h2, h4, hs1.maps h3, by rw [h1, n1]; exact hsat hle⟩
theorem Does.lent {P0 : Program} {x : Ctx} {f : SV} {args : List SV} {nx : Nat} {H : Heap} {K : SV → Heap → Nat → Prop} {P : Program} {gl : Gl} (hP : P0 = P) (hgl : x.gl = gl) (V : List Nat) (args0 : List SV) {Q : SV → Heap → Nat → Prop} (h : Con P gl f args0 0 [] Q) (hbf : f.closed ∧ f.plain ∧ lendS H V f = f ∧ lendP H V f)
    (hargs : lendL H V args = args0) (hpa : lendPL H V args) (hba : SV.bndL 0 args0)
    (next : ∀ s H' n', Q s H' n' → (s.closed ∧ s.plain ∧ H' = [] ∧ n' = 0) ∧ K s H nx) : Does P0 x f args nx H K := by
  have hren : ∀ l : List SV, SV.bndL 0 l → ∀ σ, l = SV.renL σ l := fun l hl σ => by rw [SV.renL_bnd (σ := σ) (τ := id) (m := 0) (fun i hi => absurd hi (Nat.not_lt_zero i)) l hl, SV.renL_id]
  refine Does.lend hP hgl V 0 id [] f args0 [] h (by rw [hbf.2.2.1]; exact (SV.ren_closed hbf.1 _).symm) (by rw [hargs]; exact hren _ hba _) hbf.2.2.2 hpa hbf.1 hba (fun i hi => absurd hi (Nat.not_lt_zero i)) (fun i j hi => absurd hi (Nat.not_lt_zero i)) (fun i b hb => by simp [Heap.get] at hb) fun s H' n' hq => ?_
  obtain ⟨⟨h1, h2, rfl, rfl⟩, h3⟩ := next s H' n' hq
  refine ⟨.nil, h2, fun i b hb => by simp [Heap.get] at hb, fun _ => ?_⟩
  rw [SV.ren_closed h1, without_nil]
  exact h3
end Go.Sy

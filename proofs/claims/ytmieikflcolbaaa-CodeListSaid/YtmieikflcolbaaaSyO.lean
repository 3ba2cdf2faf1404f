/- Ready words for walks: a function that changes one block. No condition. -/
import Derived.Test.YtmieikflcolbaaaSyN
namespace Go.Sy
open Go
set_option linter.unusedSimpArgs false
set_option linter.unusedVariables false
theorem drawP_fin (κ : Kx) (x : Ctx) (P : Program) (gl : Gl) (nt : Nat) (ops : Array Oper) (dfs : List Nat) (fin : Env → Heap → Nat → Prop) (env : Env) (H : Heap) (nx : Nat) : drawP κ x P gl nt ops dfs fin .fin env H nx = fin env H nx := rfl
theorem drawP_q (κ : Kx) (x : Ctx) (P : Program) (gl : Gl) (nt : Nat) (ops : Array Oper) (dfs : List Nat) (fin : Env → Heap → Nat → Prop) (env : Env) (H : Heap) (nx i : Nat) (p : Plan) : drawP κ x P gl nt ops dfs fin (.q i p) env H nx =
    match ops[i]? with
    | none => False
    | some o => dstOK nt o.dst ∧ guardP ops env o (dq P gl o env H nx (drawP κ x P gl nt ops dfs fin p)) := rfl
theorem drawP_l (κ : Kx) (x : Ctx) (P : Program) (gl : Gl) (nt : Nat) (ops : Array Oper) (dfs : List Nat) (fin : Env → Heap → Nat → Prop) (env : Env) (H : Heap) (nx i : Nat) (rs : List Nat) (p : Plan) : drawP κ x P gl nt ops dfs fin (.l i rs p) env H nx =
    match ops[i]? with
    | none => False
    | some o => dstOK nt o.dst ∧ guardP ops env o (dl κ x P gl ops dfs rs o env H nx (drawP κ x P gl nt ops dfs fin p)) := rfl
abbrev RetK (s : SV) (B : Blk) : SV → Heap → Nat → Prop := fun s' H n => s' = s ∧ H = [(0, B)] ∧ n = 1
def Blk.still (b : Blk) : Prop := ∀ σ, b.ren σ = b
theorem SV.renL_closed {l : List SV} (h : SV.bndL 0 l) (σ : Nat → Nat) : SV.renL σ l = l := by
  rw [SV.renL_bnd (σ := σ) (τ := id) (m := 0) (fun i hi => absurd hi (Nat.not_lt_zero i)) l h, SV.renL_id]
theorem Blk.still_own {cells : List SV} {T : TypeId} (h : SV.bndL 0 cells) : (Blk.own cells T).still := fun σ => by
  simp only [Blk.ren, SV.renL_closed h]
theorem Post.keep {s : SV} {B : Blk} {H : Heap} {nx : Nat} (hs : s.closed) (hB : B.still) (hb : B.bnd 1) (h : H.get 0 = some B) : Post 1 (RetK s B) s H nx :=
  .via 1 id s [(0, B)] ⟨rfl, rfl, rfl⟩ (SV.ren_id s).symm (SV.bnd_mono (Nat.zero_le 1) s hs) (fun i j _ _ e => e) (.cons (Nat.lt_succ_self 0) hb (by rw [hB]; exact h) .nil) ⟨Nat.le_refl _, fun i _ => rfl⟩
theorem Does.keep {P0 : Program} {x : Ctx} {f : SV} {args : List SV} {nx : Nat} {H : Heap} {K : SV → Heap → Nat → Prop} {P : Program} {gl : Gl} (hP : P0 = P) (hgl : x.gl = gl) (i : Nat) (args0 : List SV) {s : SV} {B B' : Blk}
    (h : Con P gl f args0 1 [(0, B)] (RetK s B')) (hargs : args = SV.renL (fun _ => i) args0) (hc : f.closed ∧ SV.bndL 1 args0 ∧ s.closed) (hB : B.still ∧ B.bnd 1 ∧ B'.still) (hi : H.get i = some B) (hlt : i < nx)
    (next : K s ((i, B') :: without [i] H) nx) : Does P0 x f args nx H K := by
  refine Does.fn hP hgl 1 (fun _ => i) [i] f args0 [(0, B)] h (SV.ren_closed hc.1 _).symm hargs (SV.bnd_mono (Nat.zero_le 1) _ hc.1) hc.2.1 (fun _ _ => hlt) (fun a b ha hb _ => by omega) ?_ ?_
  · intro j b hj
    simp only [Heap.get] at hj
    split at hj
    · rename_i e
      obtain rfl : B = b := Option.some.inj hj
      subst e
      exact ⟨Nat.lt_succ_self _, hB.2.1, by simp, by rw [hB.1]; exact hi⟩
    · cases hj
  · rintro s' H' n' ⟨rfl, rfl, rfl⟩
    refine ⟨.cons (by simp) .nil, fun _ => ?_⟩
    rw [SV.ren_closed hc.2.2]
    simp only [renH, hB.2.2 _, tau, Nat.zero_lt_one, if_true, List.cons_append, List.nil_append]
    exact next
theorem get_without {l : List Nat} {j : Nat} (hj : j ∉ l) : ∀ {H : Heap} {b : Blk}, H.get j = some b → (without l H).get j = some b
  | [], b, h => h
  | (i, c) :: H, b, h => by
    simp only [Heap.get] at h
    simp only [without]
    split at h
    · rename_i e
      rw [if_neg (by rw [e]; exact hj)]
      simpa [Heap.get, e] using h
    · rename_i e
      split
      · exact get_without hj h
      · simp only [Heap.get, e, if_false]; exact get_without hj h
theorem Holds.frzOwn {x : Ctx} {ν : Nm} {H : Heap} {w : World} {V : List Nat} {L : Nat → Option (Array Value)} {i : Nat} {cells : List SV} {T : TypeId} (hH : Holds x ν H w) (hL : lentBy ν H w V L) (hi : H.get i = some (.own cells T)) (hV : i ∉ V) (hp : lendPL H V cells) :
    Holds x (ν.lend L) ((without V H).set i (.own (lendL H V cells) T)) w := by
  have h1 := hH.freeze hL (H' := without V H) fun i b hb => without_get hb
  refine h1.write (get_without hV hi) trivial (fun _ _ => rfl) rfl (.refl _) ?_
  obtain ⟨q1, c, q2, q3⟩ := hH.ok i _ hi
  exact ⟨q1, c, q2, lendL_rel hH hL _ _ hp q3⟩
theorem Sat.frzOwn {κ : Kx} {x : Ctx} {k : List Item} {env : Env} {H : Heap} {nx : Nat} {dfs : List Nat} (V : List Nat) (i : Nat) (cells : List SV) (T : TypeId) (hi : H.get i = some (.own cells T)) (hV : i ∉ V) (hp : lendPL H V cells)
    (h : Sat κ x ⟨k, env, (without V H).set i (.own (lendL H V cells) T), nx, dfs⟩) : Sat κ x ⟨k, env, H, nx, dfs⟩ := by
  intro ν w a hn hH hE hD
  obtain ⟨L, hL⟩ := lentBy_ex ν H w V
  exact h (ν.lend L) w a hn (hH.frzOwn hL hi hV hp) (hE.grows (.lend ν L)) (hD.grows (.lend ν L))
theorem Post.frzOwn {m : Nat} {Q : SV → Heap → Nat → Prop} {s : SV} {H : Heap} {nx : Nat} (V : List Nat) (i : Nat) (cells : List SV) (T : TypeId) (hi : H.get i = some (.own cells T)) (hV : i ∉ V) (hp : lendPL H V cells)
    (h : Post m Q s ((without V H).set i (.own (lendL H V cells) T)) nx) : Post m Q s H nx := by
  intro x ν ν' w v hx hm hn hg hH hv
  obtain ⟨L, hL⟩ := lentBy_ex ν' H w V
  exact h x ν (ν'.lend L) w v hx hm hn (hg.trans (.lend ν' L)) (hH.frzOwn hL hi hV hp) (hv.grows (.lend ν' L))
abbrev RetN (B : Blk) : SV → Heap → Nat → Prop := fun s H n => s = .ptr 0 0 0 0 ∧ H = [(0, B)] ∧ n = 1
theorem Does.new {P0 : Program} {x : Ctx} {f : SV} {args : List SV} {nx : Nat} {H : Heap} {K : SV → Heap → Nat → Prop} {P : Program} {gl : Gl} (hP : P0 = P) (hgl : x.gl = gl) {B : Blk} (h : Con P gl f args 0 [] (RetN B)) (hc : f.closed ∧ SV.bndL 0 args) (hB : B.still)
    (next : K (.ptr nx 0 0 0) ((nx, B) :: H) (nx + 1)) : Does P0 x f args nx H K := by
  refine Does.fn hP hgl 0 id [] f args [] h (SV.ren_closed hc.1 _).symm (SV.renL_closed hc.2 _).symm hc.1 hc.2 (fun i hi => absurd hi (Nat.not_lt_zero i)) (fun i j hi => absurd hi (Nat.not_lt_zero i)) (fun i b hb => by simp [Heap.get] at hb) ?_
  rintro s' H' n' ⟨rfl, rfl, rfl⟩
  refine ⟨.cons (by simp) .nil, fun _ => ?_⟩
  rw [without_nil]
  simp only [renH, hB _]
  exact next
theorem Sat.room {κ : Kx} {x : Ctx} {k : List Item} {env : Env} {H : Heap} {nx : Nat} {dfs : List Nat} (i : Nat) {sz cap : Nat} {T : TypeId} {xs : List (List SV)} (hi : H.get i = some (.row sz cap T xs))
    (h : xs.length ≤ cap → Sat κ x ⟨k, env, H, nx, dfs⟩) : Sat κ x ⟨k, env, H, nx, dfs⟩ :=
  fun ν w a hn hH hE hD => h (hH.ok i _ hi).2.1 ν w a hn hH hE hD
theorem Sat.join {α : Type} {κ : Kx} {x : Ctx} {T : List Item} {nx : Nat} {dfs : List Nat} {G : Prop} (C : α → Prop) (E : α → Env × Heap) (j : (∀ a, C a → Sat κ x ⟨T, (E a).1, (E a).2, nx, dfs⟩) → G) (m : ∀ a, C a → Sat κ x ⟨T, (E a).1, (E a).2, nx, dfs⟩) : G := j m
theorem nil_rd {ν : Nm} {sz : Nat} {v : Value} (h : Rel ν (.v (.slice none 0 0)) v) : Rel ν (.rd sz []) v := by
  simp only [Rel] at h
  subst h
  exact ⟨none, 0, [], rfl, Nat.le_refl _, by simp, rfl, by simp, by simp⟩
theorem RelL.keep {ν : Nm} {s : SV} {l l' : List SV} (h : ∀ vs, RelL ν l vs → RelL ν l' vs) : ∀ vs, RelL ν (s :: l) vs → RelL ν (s :: l') vs := fun vs ⟨y, ys, e, h1, h2⟩ => ⟨y, ys, e, h1, h ys h2⟩
theorem RelL.nilrd {ν : Nm} {sz : Nat} {l l' : List SV} (h : ∀ vs, RelL ν l vs → RelL ν l' vs) : ∀ vs, RelL ν (.v (.slice none 0 0) :: l) vs → RelL ν (.rd sz [] :: l') vs := fun vs ⟨y, ys, e, h1, h2⟩ => ⟨y, ys, e, nil_rd h1, h ys h2⟩
theorem Does.frz {P0 : Program} {x : Ctx} {f : SV} {args : List SV} {nx : Nat} {H : Heap} {K : SV → Heap → Nat → Prop} (V : List Nat) (hf : lendP H V f ∧ lendS H V f = f) (hp : lendPL H V args)
    (h : Does P0 x f (lendL H V args) nx (without V H) K) : Does P0 x f args nx H K := by
  intro ν w fv vs hn hH hfv hvs
  obtain ⟨L, hL⟩ := lentBy_ex ν H w V
  have h1 := lendS_rel hH hL f fv hf.1 hfv
  rw [hf.2] at h1
  refine (h (ν.lend L) w fv vs hn (hH.freeze hL fun i b hb => without_get hb) h1 (lendL_rel hH hL _ _ hp hvs)).mono ?_
  rintro v w' ⟨ν', H', s, q1, q2, q3, q4⟩
  exact ⟨ν', H', s, (Grows.lend ν L).trans q1, q2, q3, q4⟩
end Go.Sy

/- Ready words for walks: a slice of new elements inside a result. No condition. -/
import Derived.Test.YtbgnnmlhpaaebaaDoorSyY
namespace Go.Sy
open Go
set_option linter.unusedSimpArgs false
set_option linter.unusedVariables false

/-- What stands around a value in a result. -/
structure Pre (pre : SV → SV) : Prop where
  ren : ∀ σ s, (pre s).ren σ = pre (s.ren σ)
  bnd : ∀ m s, s.bnd m → (pre s).bnd m
  lend : ∀ H V s, lendS H V (pre s) = pre (lendS H V s)
  lendP : ∀ H V s, lendP H V s → lendP H V (pre s)
/-- A slice of new elements in a result. -/
abbrev RetP (T : TypeId) (sz : Nat) (pre : SV → SV) (xs : List (List SV)) : SV → Heap → Nat → Prop := fun s H n => ∃ cap, xs.length ≤ cap ∧ s = pre (.sl 0 sz 0 xs.length cap) ∧ H = [(0, .row sz cap T xs)] ∧ n = 1
theorem Post.rowP {T : TypeId} {sz cap len : Nat} {pre : SV → SV} (hp : Pre pre) {xs : List (List SV)} {H : Heap} {nx i : Nat} (hi : H.get i = some (.row sz cap T xs)) (hl : len = xs.length) : Post 0 (RetP T sz pre xs) (pre (.sl i sz 0 len cap)) H nx := by
  intro x ν ν' w v hx hm hn hg hH hv
  have hc : xs.length ≤ cap := (hH.ok i _ hi).2.1
  exact Post.via 1 (fun _ => i) (pre (.sl 0 sz 0 len cap)) [(0, .row sz cap T xs)] ⟨cap, hc, by rw [hl], rfl, rfl⟩ (by rw [hp.ren]; rfl) (hp.bnd _ _ (Nat.lt_succ_self 0)) (fun a b _ _ _ => by omega) (.cons (Nat.lt_succ_self 0) trivial hi .nil) ⟨Nat.zero_le _, fun a h => absurd h (Nat.not_lt_zero a)⟩ x ν ν' w v hx hm hn hg hH hv
theorem Con.toRdP {P : Program} {gl : Gl} {f : SV} {args : List SV} {T : TypeId} {sz : Nat} {pre : SV → SV} (hp : Pre pre) {xs : List (List SV)} (hb : (pre (.rd sz xs)).closed) (h : Con P gl f args 0 [] (RetP T sz pre xs)) : Con P gl f args 0 [] (Ret (pre (.rd sz xs))) := by
  intro ν w fv vs h1 h2 h3 h4
  refine (h ν w fv vs h1 h2 h3 h4).mono ?_
  rintro v w' ⟨ν', s, H', ⟨cap, hc, rfl, rfl, h5⟩, hg, hH, hs⟩
  obtain ⟨_, hnc, _⟩ := hH.ok 0 _ rfl
  have hq : Go.Sy.lendP [(0, Blk.row sz cap T xs)] [0] (.sl 0 sz 0 xs.length cap) := by
    simp only [Go.Sy.lendP, List.mem_singleton, if_true, Heap.get, lendSlP]
    exact ⟨by omega, hnc, fun h => by omega⟩
  have e1 : lendS [(0, Blk.row sz cap T xs)] [0] (.sl 0 sz 0 xs.length cap) = .rd sz xs := by
    simp [lendS, lendSl, Heap.get]
  have := Post.frz (m := 0) (Q := Ret (pre (.rd sz xs))) (nx := ν'.nx) [0] (hp.lendP _ _ _ hq) (by rw [hp.lend, e1]; exact .ret hb)
  exact this (ctxOf gl ν [] w) ν ν' w' v rfl h1 rfl hg hH hs
theorem Does.rowP {P0 : Program} {x : Ctx} {f : SV} {args : List SV} {nx : Nat} {H : Heap} {K : SV → Heap → Nat → Prop} {P : Program} {gl : Gl} (hP : P0 = P) (hgl : x.gl = gl) {T : TypeId} {sz : Nat} {pre : SV → SV} (hp : Pre pre) {xs : List (List SV)} (h : Con P gl f args 0 [] (RetP T sz pre xs)) (hc : f.closed ∧ SV.bndL 0 args)
    (next : ∀ cap, xs.length ≤ cap → K (pre (.sl nx sz 0 xs.length cap)) ((nx, .row sz cap T xs) :: H) (nx + 1)) : Does P0 x f args nx H K := by
  have hren : ∀ l : List SV, SV.bndL 0 l → ∀ σ, l = SV.renL σ l := fun l hl σ => by rw [SV.renL_bnd (σ := σ) (τ := id) (m := 0) (fun i hi => absurd hi (Nat.not_lt_zero i)) l hl, SV.renL_id]
  refine Does.fn hP hgl 0 id [] f args [] h (SV.ren_closed hc.1 _).symm (hren _ hc.2 _) hc.1 hc.2 (fun i hi => absurd hi (Nat.not_lt_zero i)) (fun i j hi => absurd hi (Nat.not_lt_zero i)) (fun i b hb => by simp [Heap.get] at hb) ?_
  rintro s' H' n' ⟨cap, hc, rfl, rfl, rfl⟩
  refine ⟨.cons (by simp) .nil, fun _ => ?_⟩
  rw [without_nil, hp.ren]
  exact next cap hc
theorem Pre.agg1 : Pre fun r => .agg [r] := ⟨fun _ _ => by simp only [SV.ren, SV.renL], fun _ _ h => ⟨h, trivial⟩, fun _ _ _ => by simp only [lendS, lendL], fun _ _ _ h => by simp only [Go.Sy.lendP, lendPL]; exact ⟨h, trivial⟩⟩
theorem Pre.aggE {pre : SV → SV} (h : Pre pre) (e : Value) : Pre fun r => .tup [pre r, .v e] := ⟨fun σ s => by simp only [SV.ren, SV.renL, h.ren], fun m s hs => ⟨h.bnd m s hs, trivial, trivial⟩, fun H V s => by simp only [lendS, lendL, h.lend], fun H V s hs => by simp only [Go.Sy.lendP, lendPL]; exact ⟨h.lendP H V s hs, trivial, trivial⟩⟩
theorem Pre.aggE2 {pre : SV → SV} (h : Pre pre) (e e2 : Value) : Pre fun r => .tup [pre r, .v e, .v e2] := ⟨fun σ s => by simp only [SV.ren, SV.renL, h.ren], fun m s hs => ⟨h.bnd m s hs, trivial, trivial, trivial⟩, fun H V s => by simp only [lendS, lendL, h.lend], fun H V s hs => by simp only [Go.Sy.lendP, lendPL]; exact ⟨h.lendP H V s hs, trivial, trivial, trivial⟩⟩

theorem drawP_m (κ : Kx) (x : Ctx) (P : Program) (gl : Gl) (nt : Nat) (ops : Array Oper) (dfs : List Nat) (fin : Env → Heap → Nat → Prop) (env : Env) (H : Heap) (nx i : Nat) (rs : List Nat) (p : Plan) : drawP κ x P gl nt ops dfs fin (.m i rs p) env H nx =
    match ops[i]? with
    | none => False
    | some o => dstOK nt o.dst ∧ guardP ops env o (dl κ x P gl ops dfs rs o env H nx (drawP κ x P gl nt ops dfs fin p)) := rfl
theorem drawP_c (κ : Kx) (x : Ctx) (P : Program) (gl : Gl) (nt : Nat) (ops : Array Oper) (dfs : List Nat) (fin : Env → Heap → Nat → Prop) (env : Env) (H : Heap) (nx i : Nat) (rs : List Nat) (p : Plan) (f : Bool) : drawP κ x P gl nt ops dfs fin (.c f i rs p) env H nx =
    match ops[i]? with
    | none => False
    | some o => dstOK nt o.dst ∧ guardP ops env o (dlc P gl f ops rs o env H nx (drawP κ x P gl nt ops dfs fin p)) := rfl
theorem drawP_or (κ : Kx) (x : Ctx) (P : Program) (gl : Gl) (nt : Nat) (ops : Array Oper) (dfs : List Nat) (fin : Env → Heap → Nat → Prop) (env : Env) (H : Heap) (nx : Nat) (p q : Plan) : drawP κ x P gl nt ops dfs fin (.or p q) env H nx =
    (drawP κ x P gl nt ops dfs fin p env H nx ∧ drawP κ x P gl nt ops dfs fin q env H nx) := rfl
theorem Pre.id : Pre fun r => r := ⟨fun _ _ => rfl, fun _ _ h => h, fun _ _ _ => rfl, fun _ _ _ h => h⟩
/- The executor that stays ahead of each statement that draws its order. -/
def drawC : Code → Bool
  | .region _ _ b => b
  | .skip => false
  | .seq .. => false
  | .cond .. => false
  | .block .. => false
  | .loop _ => false
  | .rangeFunc .. => false
  | .exit _ => false
  | .scope _ => false
  | .label _ => false
  | .goto _ => false
  | .ret => false
  | .refuse _ => false
def isDraw : List Item → Bool
  | [] => false
  | .code c :: _ => drawC c
  | .inBlock _ :: _ => false
  | .inLoop _ :: _ => false
  | .inScope _ :: _ => false
  | .inRegion .. :: _ => false
  | .inRangeFunc _ :: _ => false
  | .endRangeFunc _ :: _ => false
  | .beginRound :: _ => false
  | .call .. :: _ => false
  | .extern .. :: _ => false
def halt (c : Cfg) (o : Out) : Bool → Out
  | true => .stop c
  | false => o
def execD (P : Program) (gl : Gl) (nt : Nat) : Nat → Cfg → Out
  | 0, c => .stop c
  | n + 1, c => halt c (runR (execD P gl nt n) (stepS P gl nt c)) (isDraw c.todo)
theorem execD_zero (P : Program) (gl : Gl) (nt : Nat) (c : Cfg) : execD P gl nt 0 c = .stop c := rfl
theorem execD_succ (P : Program) (gl : Gl) (nt n : Nat) (c : Cfg) : execD P gl nt (n + 1) c = halt c (runR (execD P gl nt n) (stepS P gl nt c)) (isDraw c.todo) := rfl
theorem execD_sound {κ : Kx} {x : Ctx} : ∀ (n : Nat) (c : Cfg), OutOK κ x (execD κ.P x.gl κ.nt n c) → Sat κ x c
  | 0, _, h => h
  | n + 1, c, h => by
    rw [execD_succ] at h
    cases hd : isDraw c.todo with
    | true => rw [hd] at h; exact h
    | false => rw [hd] at h; exact step_sound (execD_sound n) c h
theorem Ends.runD {κ : Kx} {x : Ctx} {P : Program} {gl : Gl} {nt m : Nat} {res : List ResultVar} {R : SV → Heap → Nat → Prop} (e : Ends κ x P gl nt res m R) {c : Cfg} (n : Nat) (h : OutOK κ x (execD P gl nt n c)) : Sat κ x c := by
  obtain ⟨rfl, rfl, rfl, _, _, _, _⟩ := e
  exact execD_sound n c h
/- The executor that stays ahead of a statement that is named by its number. -/
def atC (r : Nat) : Code → Bool
  | .region i _ _ => i == r
  | .skip => false
  | .seq .. => false
  | .cond .. => false
  | .block .. => false
  | .loop _ => false
  | .rangeFunc .. => false
  | .exit _ => false
  | .scope _ => false
  | .label _ => false
  | .goto _ => false
  | .ret => false
  | .refuse _ => false
def isAt (r : Nat) : List Item → Bool
  | [] => false
  | .code c :: _ => atC r c
  | .inBlock _ :: _ => false
  | .inLoop _ :: _ => false
  | .inScope _ :: _ => false
  | .inRegion .. :: _ => false
  | .inRangeFunc _ :: _ => false
  | .endRangeFunc _ :: _ => false
  | .beginRound :: _ => false
  | .call .. :: _ => false
  | .extern .. :: _ => false
def execA (P : Program) (gl : Gl) (nt r : Nat) : Nat → Cfg → Out
  | 0, c => .stop c
  | n + 1, c => halt c (runR (execA P gl nt r n) (stepS P gl nt c)) (isAt r c.todo)
theorem execA_zero (P : Program) (gl : Gl) (nt r : Nat) (c : Cfg) : execA P gl nt r 0 c = .stop c := rfl
theorem execA_succ (P : Program) (gl : Gl) (nt r n : Nat) (c : Cfg) : execA P gl nt r (n + 1) c = halt c (runR (execA P gl nt r n) (stepS P gl nt c)) (isAt r c.todo) := rfl
theorem execA_sound {κ : Kx} {x : Ctx} (r : Nat) : ∀ (n : Nat) (c : Cfg), OutOK κ x (execA κ.P x.gl κ.nt r n c) → Sat κ x c
  | 0, _, h => h
  | n + 1, c, h => by
    rw [execA_succ] at h
    cases hd : isAt r c.todo with
    | true => rw [hd] at h; exact h
    | false => rw [hd] at h; exact step_sound (execA_sound r n) c h
theorem Ends.runA {κ : Kx} {x : Ctx} {P : Program} {gl : Gl} {nt m : Nat} {res : List ResultVar} {R : SV → Heap → Nat → Prop} (e : Ends κ x P gl nt res m R) {c : Cfg} (r n : Nat) (h : OutOK κ x (execA P gl nt r n c)) : Sat κ x c := by
  obtain ⟨rfl, rfl, rfl, _, _, _, _⟩ := e
  exact execA_sound r n c h
theorem Rnd.runA {κ : Kx} {x : Ctx} {P : Program} {gl : Gl} {nt i m : Nat} {K : SV → Heap → Nat → Prop} (e : Rnd κ x P gl nt i m K) {c : Cfg} (r n : Nat) (h : OutOK κ x (execA P gl nt r n c)) : Sat κ x c := by
  obtain ⟨rfl, rfl, rfl, _, _, _, _, _, _⟩ := e
  exact execA_sound r n c h
theorem RndL.runA {κ : Kx} {x : Ctx} {P : Program} {gl : Gl} {nt i m : Nat} {L : LR} {K : SV → Heap → Nat → Prop} (e : RndL κ x P gl nt i m L K) {c : Cfg} (r n : Nat) (h : OutOK κ x (execA P gl nt r n c)) : Sat κ x c := e.rnd.runA r n h
/- The executor that stays ahead of an operation: the i-th one of a statement of n. -/
def isOp (i n : Nat) : List Item → Bool
  | [] => false
  | .code _ :: _ => false
  | .inBlock _ :: _ => false
  | .inLoop _ :: _ => false
  | .inScope _ :: _ => false
  | .inRegion ops l :: _ => match l with | [] => false | j :: _ => j == i && ops.size == n
  | .inRangeFunc _ :: _ => false
  | .endRangeFunc _ :: _ => false
  | .beginRound :: _ => false
  | .call .. :: _ => false
  | .extern .. :: _ => false
def execO (P : Program) (gl : Gl) (nt i m : Nat) : Nat → Cfg → Out
  | 0, c => .stop c
  | n + 1, c => halt c (runR (execO P gl nt i m n) (stepS P gl nt c)) (isOp i m c.todo)
theorem execO_zero (P : Program) (gl : Gl) (nt i m : Nat) (c : Cfg) : execO P gl nt i m 0 c = .stop c := rfl
theorem execO_succ (P : Program) (gl : Gl) (nt i m n : Nat) (c : Cfg) : execO P gl nt i m (n + 1) c = halt c (runR (execO P gl nt i m n) (stepS P gl nt c)) (isOp i m c.todo) := rfl
theorem execO_sound {κ : Kx} {x : Ctx} (i m : Nat) : ∀ (n : Nat) (c : Cfg), OutOK κ x (execO κ.P x.gl κ.nt i m n c) → Sat κ x c
  | 0, _, h => h
  | n + 1, c, h => by
    rw [execO_succ] at h
    cases hd : isOp i m c.todo with
    | true => rw [hd] at h; exact h
    | false => rw [hd] at h; exact step_sound (execO_sound i m n) c h
theorem Ends.runO {κ : Kx} {x : Ctx} {P : Program} {gl : Gl} {nt m : Nat} {res : List ResultVar} {R : SV → Heap → Nat → Prop} (e : Ends κ x P gl nt res m R) {c : Cfg} (i j n : Nat) (h : OutOK κ x (execO P gl nt i j n c)) : Sat κ x c := by
  obtain ⟨rfl, rfl, rfl, _, _, _, _⟩ := e
  exact execO_sound i j n c h
theorem Rnd.runO {κ : Kx} {x : Ctx} {P : Program} {gl : Gl} {nt k m : Nat} {K : SV → Heap → Nat → Prop} (e : Rnd κ x P gl nt k m K) {c : Cfg} (i j n : Nat) (h : OutOK κ x (execO P gl nt i j n c)) : Sat κ x c := by
  obtain ⟨rfl, rfl, rfl, _, _, _, _, _, _⟩ := e
  exact execO_sound i j n c h
theorem RndL.runO {κ : Kx} {x : Ctx} {P : Program} {gl : Gl} {nt k m : Nat} {L : LR} {K : SV → Heap → Nat → Prop} (e : RndL κ x P gl nt k m L K) {c : Cfg} (i j n : Nat) (h : OutOK κ x (execO P gl nt i j n c)) : Sat κ x c := e.rnd.runO i j n h
theorem Rnd.runD {κ : Kx} {x : Ctx} {P : Program} {gl : Gl} {nt i m : Nat} {K : SV → Heap → Nat → Prop} (e : Rnd κ x P gl nt i m K) {c : Cfg} (n : Nat) (h : OutOK κ x (execD P gl nt n c)) : Sat κ x c := by
  obtain ⟨rfl, rfl, rfl, _, _, _, _, _, _⟩ := e
  exact execD_sound n c h
theorem RndL.runD {κ : Kx} {x : Ctx} {P : Program} {gl : Gl} {nt i m : Nat} {L : LR} {K : SV → Heap → Nat → Prop} (e : RndL κ x P gl nt i m L K) {c : Cfg} (n : Nat) (h : OutOK κ x (execD P gl nt n c)) : Sat κ x c := e.rnd.runD n h

/- slices of nothing: nil or not -/
/-- A slice of nothing that is handed over first: whether it is nil or not. -/
theorem Con.noArg {P : Program} {gl : Gl} {f : SV} {args : List SV} {m sz : Nat} {H : Heap} {Q : SV → Heap → Nat → Prop} (h : ∀ a cap, Con P gl f (.v (.slice a 0 cap) :: args) m H Q) : Con P gl f (.rd sz [] :: args) m H Q := by
  intro ν w fv vs h1 h2 h3 h4
  obtain ⟨y, ys, rfl, hy, hys⟩ := h4
  simp only [Rel] at hy
  obtain ⟨a, cap, xs, rfl, -⟩ := hy
  exact h a cap ν w fv _ h1 h2 h3 ⟨_, _, rfl, rfl, hys⟩
/-- What comes back may be told in other words. -/
theorem Con.repR {P : Program} {gl : Gl} {f : SV} {args : List SV} {s s' : SV} (hr : ∀ ν v, Rel ν s v → Rel ν s' v) (h : Con P gl f args 0 [] (Ret s)) : Con P gl f args 0 [] (Ret s') := by
  intro ν w fv vs h1 h2 h3 h4
  refine (h ν w fv vs h1 h2 h3 h4).mono ?_
  rintro v w' ⟨ν', s0, H', ⟨rfl, rfl, h5⟩, hg, hH, hs⟩
  exact ⟨ν', s', [], ⟨rfl, rfl, h5⟩, hg, hH, hr _ _ hs⟩
theorem Rel.aggMap {ν : Nm} {l l' : List SV} (h : ∀ vs, RelL ν l vs → RelL ν l' vs) : ∀ v, Rel ν (.agg l) v → Rel ν (.agg l') v := fun v hv => by
  simp only [Rel] at hv ⊢
  obtain ⟨c, rfl, hc⟩ := hv
  exact ⟨c, rfl, h _ hc⟩
theorem Rel.tupMap {ν : Nm} {l l' : List SV} (h : ∀ vs, RelL ν l vs → RelL ν l' vs) : ∀ v, Rel ν (.tup l) v → Rel ν (.tup l') v := fun v hv => by
  simp only [Rel] at hv ⊢
  obtain ⟨c, rfl, hc⟩ := hv
  exact ⟨c, rfl, h _ hc⟩
theorem RelL.mapHead {ν : Nm} {s s' : SV} {l : List SV} (h : ∀ v, Rel ν s v → Rel ν s' v) : ∀ vs, RelL ν (s :: l) vs → RelL ν (s' :: l) vs := fun vs ⟨y, ys, e, h1, h2⟩ => ⟨y, ys, e, h y h1, h2⟩
/-- A nil slice alone, and at the head of a struct or a tuple. -/
theorem nil1 {ν : Nm} {sz : Nat} {l : List SV} : ∀ vs, RelL ν (.v (.slice none 0 0) :: l) vs → RelL ν (.rd sz [] :: l) vs := RelL.mapHead fun _ => nil_rd

theorem Con.argR {P : Program} {gl : Gl} {f : SV} {args args' : List SV} {m : Nat} {H : Heap} {Q : SV → Heap → Nat → Prop} (hr : ∀ ν vs, RelL ν args vs → RelL ν args' vs) (h : Con P gl f args' m H Q) : Con P gl f args m H Q :=
  fun ν w fv vs h1 h2 h3 h4 => h ν w fv vs h1 h2 h3 (hr ν vs h4)
/-- A block's cells in other words. -/
theorem Sat.repOwn {κ : Kx} {x : Ctx} {k : List Item} {env : Env} {H : Heap} {nx : Nat} {dfs : List Nat} (i : Nat) (cells cells' : List SV) (T : TypeId) (hi : H.get i = some (.own cells T)) (hr : ∀ ν vs, RelL ν cells vs → RelL ν cells' vs)
    (h : Sat κ x ⟨k, env, H.set i (.own cells' T), nx, dfs⟩) : Sat κ x ⟨k, env, H, nx, dfs⟩ := by
  intro ν w a hn hH hE hD
  refine h ν w a hn (hH.write hi trivial (fun _ _ => rfl) rfl (.refl _) ?_) hE hD
  obtain ⟨q1, c, q2, q3⟩ := hH.ok i _ hi
  exact ⟨q1, c, q2, hr _ _ q3⟩

/-- A result; the blocks that were handed in are as they were. -/
abbrev RetS (s : SV) (H0 : Heap) (m : Nat) : SV → Heap → Nat → Prop := fun s' H n => s' = s ∧ H = H0 ∧ n = m
/-- A call by contract that looks at blocks. -/
theorem Does.look {P0 : Program} {x : Ctx} {f : SV} {args : List SV} {nx : Nat} {H : Heap} {K : SV → Heap → Nat → Prop} {P : Program} {gl : Gl} (hP : P0 = P) (hgl : x.gl = gl) (m : Nat) (σ : Nat → Nat) (l : List Nat) (args0 : List SV) (H0 : Heap) {s : SV}
    (h : Con P gl f args0 m H0 (RetS s H0 m)) (hargs : args = SV.renL σ args0) (hc : f.closed ∧ SV.bndL m args0 ∧ s.closed) (hσ : ∀ i, i < m → σ i < nx) (hinj : ∀ i j, i < m → j < m → σ i = σ j → i = j)
    (hv : ∀ i b, H0.get i = some b → i < m ∧ b.bnd m ∧ σ i ∈ l ∧ H.get (σ i) = some (b.ren σ)) (ho : Once H0) (next : K s (renH (tau m nx σ) H0 ++ without l H) nx) : Does P0 x f args nx H K := by
  refine Does.fn hP hgl m σ l f args0 H0 h (SV.ren_closed hc.1 _).symm hargs (SV.bnd_mono (Nat.zero_le m) _ hc.1) hc.2.1 hσ hinj hv ?_
  rintro s' H' n' ⟨rfl, rfl, rfl⟩
  refine ⟨ho, fun _ => ?_⟩
  rw [SV.ren_closed hc.2.2, Nat.sub_self, Nat.add_zero]
  exact next
theorem Post.look {m : Nat} {s : SV} {H0 H : Heap} {nx : Nat} (hs : s.closed) (hv : HeapVia m id H0 H) : Post m (RetS s H0 m) s H nx :=
  .via m id s H0 ⟨rfl, rfl, rfl⟩ (SV.ren_id s).symm (SV.bnd_mono (Nat.zero_le m) s hs) (fun i j _ _ e => e) hv ⟨Nat.le_refl _, fun i _ => rfl⟩
/-- One block after the other. -/
theorem HeapIn.nil {m : Nat} {σ : Nat → Nat} {l : List Nat} {H : Heap} : ∀ i b, Heap.get [] i = some b → i < m ∧ b.bnd m ∧ σ i ∈ l ∧ H.get (σ i) = some (b.ren σ) := fun i b h => by simp [Heap.get] at h
theorem HeapIn.cons {m : Nat} {σ : Nat → Nat} {l : List Nat} {H H0 : Heap} {j : Nat} {c : Blk} (h1 : j < m) (h2 : c.bnd m) (h3 : σ j ∈ l) (h4 : H.get (σ j) = some (c.ren σ)) (h : ∀ i b, H0.get i = some b → i < m ∧ b.bnd m ∧ σ i ∈ l ∧ H.get (σ i) = some (b.ren σ)) :
    ∀ i b, Heap.get ((j, c) :: H0) i = some b → i < m ∧ b.bnd m ∧ σ i ∈ l ∧ H.get (σ i) = some (b.ren σ) := fun i b hb => by
  simp only [Heap.get] at hb
  split at hb
  · rename_i e
    subst e
    cases hb
    exact ⟨h1, h2, h3, h4⟩
  · exact h i b hb
end Go.Sy

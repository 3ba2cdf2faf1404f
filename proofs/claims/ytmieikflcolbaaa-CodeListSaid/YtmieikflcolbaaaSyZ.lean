/- Ready words for walks: a slice of new elements inside a result. No condition. -/
import Derived.Test.YtmieikflcolbaaaSyY
namespace Go.Sy
open Go
set_option linter.unusedSimpArgs false
set_option linter.unusedVariables false
structure Pre (pre : SV → SV) : Prop where
  ren : ∀ σ s, (pre s).ren σ = pre (s.ren σ)
  bnd : ∀ m s, s.bnd m → (pre s).bnd m
  lend : ∀ H V s, lendS H V (pre s) = pre (lendS H V s)
  lendP : ∀ H V s, lendP H V s → lendP H V (pre s)
abbrev RetP (T : TypeId) (sz : Nat) (pre : SV → SV) (xs : List (List SV)) : SV → Heap → Nat → Prop := fun s H n => ∃ cap, xs.length ≤ cap ∧ s = pre (.sl 0 sz 0 xs.length cap) ∧ H = [(0, .row sz cap T xs)] ∧ n = 1
theorem drawP_m (κ : Kx) (x : Ctx) (P : Program) (gl : Gl) (nt : Nat) (ops : Array Oper) (dfs : List Nat) (fin : Env → Heap → Nat → Prop) (env : Env) (H : Heap) (nx i : Nat) (rs : List Nat) (p : Plan) : drawP κ x P gl nt ops dfs fin (.m i rs p) env H nx =
    match ops[i]? with
    | none => False
    | some o => dstOK nt o.dst ∧ guardP ops env o (dl κ x P gl ops dfs rs o env H nx (drawP κ x P gl nt ops dfs fin p)) := rfl
theorem drawP_or (κ : Kx) (x : Ctx) (P : Program) (gl : Gl) (nt : Nat) (ops : Array Oper) (dfs : List Nat) (fin : Env → Heap → Nat → Prop) (env : Env) (H : Heap) (nx : Nat) (p q : Plan) : drawP κ x P gl nt ops dfs fin (.or p q) env H nx =
    (drawP κ x P gl nt ops dfs fin p env H nx ∧ drawP κ x P gl nt ops dfs fin q env H nx) := rfl
theorem Pre.id : Pre fun r => r := ⟨fun _ _ => rfl, fun _ _ h => h, fun _ _ _ => rfl, fun _ _ _ h => h⟩
def drawC : Code → Bool
  | .region _ _ b => b
  | .skip => false
  | .seq .. => false
  | .cond .. => false
  | .block .. => false
  | .loop _ => false
  | .rangeFunc .. => false
  | .exit _ => false
  | .scope _ => false
  | .label _ => false
  | .goto _ => false
  | .ret => false
  | .refuse _ => false
def isDraw : List Item → Bool
  | [] => false
  | .code c :: _ => drawC c
  | .inBlock _ :: _ => false
  | .inLoop _ :: _ => false
  | .inScope _ :: _ => false
  | .inRegion .. :: _ => false
  | .inRangeFunc _ :: _ => false
  | .endRangeFunc _ :: _ => false
  | .beginRound :: _ => false
  | .call .. :: _ => false
  | .extern .. :: _ => false
def halt (c : Cfg) (o : Out) : Bool → Out
  | true => .stop c
  | false => o
def execD (P : Program) (gl : Gl) (nt : Nat) : Nat → Cfg → Out
  | 0, c => .stop c
  | n + 1, c => halt c (runR (execD P gl nt n) (stepS P gl nt c)) (isDraw c.todo)
theorem execD_succ (P : Program) (gl : Gl) (nt n : Nat) (c : Cfg) : execD P gl nt (n + 1) c = halt c (runR (execD P gl nt n) (stepS P gl nt c)) (isDraw c.todo) := rfl
theorem execD_sound {κ : Kx} {x : Ctx} : ∀ (n : Nat) (c : Cfg), OutOK κ x (execD κ.P x.gl κ.nt n c) → Sat κ x c
  | 0, _, h => h
  | n + 1, c, h => by
    rw [execD_succ] at h
    cases hd : isDraw c.todo with
    | true => rw [hd] at h; exact h
    | false => rw [hd] at h; exact step_sound (execD_sound n) c h
theorem Ends.runD {κ : Kx} {x : Ctx} {P : Program} {gl : Gl} {nt m : Nat} {res : List ResultVar} {R : SV → Heap → Nat → Prop} (e : Ends κ x P gl nt res m R) {c : Cfg} (n : Nat) (h : OutOK κ x (execD P gl nt n c)) : Sat κ x c := by
  obtain ⟨rfl, rfl, rfl, _, _, _, _⟩ := e
  exact execD_sound n c h
def atC (r : Nat) : Code → Bool
  | .region i _ _ => i == r
  | .skip => false
  | .seq .. => false
  | .cond .. => false
  | .block .. => false
  | .loop _ => false
  | .rangeFunc .. => false
  | .exit _ => false
  | .scope _ => false
  | .label _ => false
  | .goto _ => false
  | .ret => false
  | .refuse _ => false
def isAt (r : Nat) : List Item → Bool
  | [] => false
  | .code c :: _ => atC r c
  | .inBlock _ :: _ => false
  | .inLoop _ :: _ => false
  | .inScope _ :: _ => false
  | .inRegion .. :: _ => false
  | .inRangeFunc _ :: _ => false
  | .endRangeFunc _ :: _ => false
  | .beginRound :: _ => false
  | .call .. :: _ => false
  | .extern .. :: _ => false
def execA (P : Program) (gl : Gl) (nt r : Nat) : Nat → Cfg → Out
  | 0, c => .stop c
  | n + 1, c => halt c (runR (execA P gl nt r n) (stepS P gl nt c)) (isAt r c.todo)
theorem execA_succ (P : Program) (gl : Gl) (nt r n : Nat) (c : Cfg) : execA P gl nt r (n + 1) c = halt c (runR (execA P gl nt r n) (stepS P gl nt c)) (isAt r c.todo) := rfl
theorem execA_sound {κ : Kx} {x : Ctx} (r : Nat) : ∀ (n : Nat) (c : Cfg), OutOK κ x (execA κ.P x.gl κ.nt r n c) → Sat κ x c
  | 0, _, h => h
  | n + 1, c, h => by
    rw [execA_succ] at h
    cases hd : isAt r c.todo with
    | true => rw [hd] at h; exact h
    | false => rw [hd] at h; exact step_sound (execA_sound r n) c h
theorem Ends.runA {κ : Kx} {x : Ctx} {P : Program} {gl : Gl} {nt m : Nat} {res : List ResultVar} {R : SV → Heap → Nat → Prop} (e : Ends κ x P gl nt res m R) {c : Cfg} (r n : Nat) (h : OutOK κ x (execA P gl nt r n c)) : Sat κ x c := by
  obtain ⟨rfl, rfl, rfl, _, _, _, _⟩ := e
  exact execA_sound r n c h
theorem Rnd.runA {κ : Kx} {x : Ctx} {P : Program} {gl : Gl} {nt i m : Nat} {K : SV → Heap → Nat → Prop} (e : Rnd κ x P gl nt i m K) {c : Cfg} (r n : Nat) (h : OutOK κ x (execA P gl nt r n c)) : Sat κ x c := by
  obtain ⟨rfl, rfl, rfl, _, _, _, _, _, _⟩ := e
  exact execA_sound r n c h
theorem RndL.runA {κ : Kx} {x : Ctx} {P : Program} {gl : Gl} {nt i m : Nat} {L : LR} {K : SV → Heap → Nat → Prop} (e : RndL κ x P gl nt i m L K) {c : Cfg} (r n : Nat) (h : OutOK κ x (execA P gl nt r n c)) : Sat κ x c := e.rnd.runA r n h
def isOp (i n : Nat) : List Item → Bool
  | [] => false
  | .code _ :: _ => false
  | .inBlock _ :: _ => false
  | .inLoop _ :: _ => false
  | .inScope _ :: _ => false
  | .inRegion ops l :: _ => match l with | [] => false | j :: _ => j == i && ops.size == n
  | .inRangeFunc _ :: _ => false
  | .endRangeFunc _ :: _ => false
  | .beginRound :: _ => false
  | .call .. :: _ => false
  | .extern .. :: _ => false
def execO (P : Program) (gl : Gl) (nt i m : Nat) : Nat → Cfg → Out
  | 0, c => .stop c
  | n + 1, c => halt c (runR (execO P gl nt i m n) (stepS P gl nt c)) (isOp i m c.todo)
theorem execO_succ (P : Program) (gl : Gl) (nt i m n : Nat) (c : Cfg) : execO P gl nt i m (n + 1) c = halt c (runR (execO P gl nt i m n) (stepS P gl nt c)) (isOp i m c.todo) := rfl
theorem execO_sound {κ : Kx} {x : Ctx} (i m : Nat) : ∀ (n : Nat) (c : Cfg), OutOK κ x (execO κ.P x.gl κ.nt i m n c) → Sat κ x c
  | 0, _, h => h
  | n + 1, c, h => by
    rw [execO_succ] at h
    cases hd : isOp i m c.todo with
    | true => rw [hd] at h; exact h
    | false => rw [hd] at h; exact step_sound (execO_sound i m n) c h
theorem Ends.runO {κ : Kx} {x : Ctx} {P : Program} {gl : Gl} {nt m : Nat} {res : List ResultVar} {R : SV → Heap → Nat → Prop} (e : Ends κ x P gl nt res m R) {c : Cfg} (i j n : Nat) (h : OutOK κ x (execO P gl nt i j n c)) : Sat κ x c := by
  obtain ⟨rfl, rfl, rfl, _, _, _, _⟩ := e
  exact execO_sound i j n c h
theorem Rnd.runO {κ : Kx} {x : Ctx} {P : Program} {gl : Gl} {nt k m : Nat} {K : SV → Heap → Nat → Prop} (e : Rnd κ x P gl nt k m K) {c : Cfg} (i j n : Nat) (h : OutOK κ x (execO P gl nt i j n c)) : Sat κ x c := by
  obtain ⟨rfl, rfl, rfl, _, _, _, _, _, _⟩ := e
  exact execO_sound i j n c h
theorem RndL.runO {κ : Kx} {x : Ctx} {P : Program} {gl : Gl} {nt k m : Nat} {L : LR} {K : SV → Heap → Nat → Prop} (e : RndL κ x P gl nt k m L K) {c : Cfg} (i j n : Nat) (h : OutOK κ x (execO P gl nt i j n c)) : Sat κ x c := e.rnd.runO i j n h
theorem Rnd.runD {κ : Kx} {x : Ctx} {P : Program} {gl : Gl} {nt i m : Nat} {K : SV → Heap → Nat → Prop} (e : Rnd κ x P gl nt i m K) {c : Cfg} (n : Nat) (h : OutOK κ x (execD P gl nt n c)) : Sat κ x c := by
  obtain ⟨rfl, rfl, rfl, _, _, _, _, _, _⟩ := e
  exact execD_sound n c h
theorem RndL.runD {κ : Kx} {x : Ctx} {P : Program} {gl : Gl} {nt i m : Nat} {L : LR} {K : SV → Heap → Nat → Prop} (e : RndL κ x P gl nt i m L K) {c : Cfg} (n : Nat) (h : OutOK κ x (execD P gl nt n c)) : Sat κ x c := e.rnd.runD n h
theorem Con.repR {P : Program} {gl : Gl} {f : SV} {args : List SV} {s s' : SV} (hr : ∀ ν v, Rel ν s v → Rel ν s' v) (h : Con P gl f args 0 [] (Ret s)) : Con P gl f args 0 [] (Ret s') := by
  intro ν w fv vs h1 h2 h3 h4
  refine (h ν w fv vs h1 h2 h3 h4).mono ?_
  rintro v w' ⟨ν', s0, H', ⟨rfl, rfl, h5⟩, hg, hH, hs⟩
  exact ⟨ν', s', [], ⟨rfl, rfl, h5⟩, hg, hH, hr _ _ hs⟩
theorem Rel.aggMap {ν : Nm} {l l' : List SV} (h : ∀ vs, RelL ν l vs → RelL ν l' vs) : ∀ v, Rel ν (.agg l) v → Rel ν (.agg l') v := fun v hv => by
  simp only [Rel] at hv ⊢
  obtain ⟨c, rfl, hc⟩ := hv
  exact ⟨c, rfl, h _ hc⟩
theorem Rel.tupMap {ν : Nm} {l l' : List SV} (h : ∀ vs, RelL ν l vs → RelL ν l' vs) : ∀ v, Rel ν (.tup l) v → Rel ν (.tup l') v := fun v hv => by
  simp only [Rel] at hv ⊢
  obtain ⟨c, rfl, hc⟩ := hv
  exact ⟨c, rfl, h _ hc⟩
theorem RelL.mapHead {ν : Nm} {s s' : SV} {l : List SV} (h : ∀ v, Rel ν s v → Rel ν s' v) : ∀ vs, RelL ν (s :: l) vs → RelL ν (s' :: l) vs := fun vs ⟨y, ys, e, h1, h2⟩ => ⟨y, ys, e, h y h1, h2⟩
theorem Con.argR {P : Program} {gl : Gl} {f : SV} {args args' : List SV} {m : Nat} {H : Heap} {Q : SV → Heap → Nat → Prop} (hr : ∀ ν vs, RelL ν args vs → RelL ν args' vs) (h : Con P gl f args' m H Q) : Con P gl f args m H Q :=
  fun ν w fv vs h1 h2 h3 h4 => h ν w fv vs h1 h2 h3 (hr ν vs h4)
theorem Sat.repOwn {κ : Kx} {x : Ctx} {k : List Item} {env : Env} {H : Heap} {nx : Nat} {dfs : List Nat} (i : Nat) (cells cells' : List SV) (T : TypeId) (hi : H.get i = some (.own cells T)) (hr : ∀ ν vs, RelL ν cells vs → RelL ν cells' vs)
    (h : Sat κ x ⟨k, env, H.set i (.own cells' T), nx, dfs⟩) : Sat κ x ⟨k, env, H, nx, dfs⟩ := by
  intro ν w a hn hH hE hD
  refine h ν w a hn (hH.write hi trivial (fun _ _ => rfl) rfl (.refl _) ?_) hE hD
  obtain ⟨q1, c, q2, q3⟩ := hH.ok i _ hi
  exact ⟨q1, c, q2, hr _ _ q3⟩
abbrev RetS (s : SV) (H0 : Heap) (m : Nat) : SV → Heap → Nat → Prop := fun s' H n => s' = s ∧ H = H0 ∧ n = m
theorem HeapIn.nil {m : Nat} {σ : Nat → Nat} {l : List Nat} {H : Heap} : ∀ i b, Heap.get [] i = some b → i < m ∧ b.bnd m ∧ σ i ∈ l ∧ H.get (σ i) = some (b.ren σ) := fun i b h => by simp [Heap.get] at h
theorem HeapIn.cons {m : Nat} {σ : Nat → Nat} {l : List Nat} {H H0 : Heap} {j : Nat} {c : Blk} (h1 : j < m) (h2 : c.bnd m) (h3 : σ j ∈ l) (h4 : H.get (σ j) = some (c.ren σ)) (h : ∀ i b, H0.get i = some b → i < m ∧ b.bnd m ∧ σ i ∈ l ∧ H.get (σ i) = some (b.ren σ)) :
    ∀ i b, Heap.get ((j, c) :: H0) i = some b → i < m ∧ b.bnd m ∧ σ i ∈ l ∧ H.get (σ i) = some (b.ren σ) := fun i b hb => by
  simp only [Heap.get] at hb
  split at hb
  · rename_i e
    subst e
    cases hb
    exact ⟨h1, h2, h3, h4⟩
  · exact h i b hb
end Go.Sy

/- Loops over functions, their records kept folded. No condition. -/
import Derived.Test.YtnjgmjcokcfmkaaDoorSyO
import Derived.OpenShut
import Derived.ProofKit
import Derived.SizedLaws
import Derived.Deep.Slices
import Derived.ChangeCalls
namespace Go.Sy
open Go
set_option linter.unusedSimpArgs false
set_option linter.unusedVariables false
/-- What a loop over a function has written down, its code and its surroundings. -/
structure LR where
  fn : FuncId
  nt : Nat
  env : Env
  ps : Array Tmp
  asg : Code
  body : Code
  d : Nat
def LR.blk (L : LR) (st : LoopState) (pd : Option Code) : Blk := .loop st pd L.fn L.nt L.env L.ps L.asg L.body L.d
theorem LR.ren {L : LR} {τ : Nat → Nat} {st : LoopState} {pd : Option Code} (h1 : renE τ L.env = L.env) (h2 : τ L.d = L.d) : (L.blk st pd).ren τ = L.blk st pd := by
  simp only [LR.blk, Blk.ren, h1, h2]
theorem LR.bnd {L : LR} {m : Nat} {st : LoopState} {pd : Option Code} (h1 : bndE m L.env) (h2 : L.d < m) : (L.blk st pd).bnd m := ⟨h1, h2⟩

/-- A LOOP OVER A FUNCTION. -/
theorem Ends.rangeL {κ : Kx} {x : Ctx} {P : Program} {gl : Gl} {nt m : Nat} {res : List ResultVar} {R : SV → Heap → Nat → Prop} (e : Ends κ x P gl nt res m R) {f : Operand} {ps : Array Tmp} {asg body : Code} {k : List Item} {env : Env} {H : Heap} {nx : Nat} {dfs : List Nat} {g : SV} (hf : ev gl env f = some g)
    (h : ∀ L : LR, L.nt = nt → L.env = env → L.ps = ps → L.asg = asg → L.body = body → L.d = nx → Does P x g [.yl (nx + 1)] (nx + 2) ((nx + 1, L.blk .ready none) :: (nx, .obj (.deferred (some []))) :: H) (fun _ H' n' => ∃ st pd, H'.get (nx + 1) = some (L.blk st pd) ∧ st ≠ .busy ∧
      Sat κ x ⟨(pd.map Item.code).toList ++ k, env, H'.drop (nx + 1), n', nx :: dfs⟩)) : Sat κ x ⟨.code (.rangeFunc f ps asg body) :: k, env, H, nx, dfs⟩ :=
  e.range hf fun fn => (h ⟨fn, nt, env, ps, asg, body, nx⟩ rfl rfl rfl rfl rfl rfl).mono fun _ H' n' ⟨st, pd, h1, h2, h3⟩ => ⟨st, pd, _, _, _, _, _, _, _, h1, h2, h3⟩

/-- The frame of a round. -/
structure RndL (κ : Kx) (x : Ctx) (P : Program) (gl : Gl) (nt : Nat) (id m : Nat) (L : LR) (K : SV → Heap → Nat → Prop) : Prop where
  rnd : Rnd κ x P gl nt id m K
  hP : κ.P = P
  hgl : x.gl = gl
  hm : x.nm.nx = m
  beg : ∀ {k : List Item} {env : Env} {H : Heap} {nx : Nat} {dfs : List Nat} {pd}, H.get id = some (L.blk .ready pd) → Sat κ x ⟨k, env, H.set id (L.blk .busy pd), nx, dfs⟩ → Sat κ x ⟨.beginRound :: k, env, H, nx, dfs⟩
  fin : ∀ {env : Env} {H : Heap} {nx : Nat} {st pd}, H.get id = some (L.blk st pd) → K (.v (.bool true)) (H.set id (L.blk .ready none)) nx → Sat κ x ⟨[], env, H, nx, []⟩
  ret : ∀ {k : List Item} {env : Env} {H : Heap} {nx : Nat} {st pd}, H.get id = some (L.blk st pd) → K (.v (.bool false)) (H.set id (L.blk .done (some .ret))) nx → Sat κ x ⟨.code .ret :: k, env, H, nx, []⟩
  exit : ∀ {i : Nat} {k : List Item} {env : Env} {H : Heap} {nx : Nat} {st pd}, exitTo i k = none → H.get id = some (L.blk st pd) → K (.v (.bool false)) (H.set id (L.blk .done (some (.exit i)))) nx → Sat κ x ⟨.code (.exit i) :: k, env, H, nx, []⟩
theorem RndL.run {κ : Kx} {x : Ctx} {P : Program} {gl : Gl} {nt id m : Nat} {L : LR} {K : SV → Heap → Nat → Prop} (e : RndL κ x P gl nt id m L K) {c : Cfg} (n : Nat) (h : OutOK κ x (exec P gl nt n c)) : Sat κ x c := e.rnd.run n h
theorem RndL.draw {κ : Kx} {x : Ctx} {P : Program} {gl : Gl} {nt i m : Nat} {L : LR} {K : SV → Heap → Nat → Prop} (e : RndL κ x P gl nt i m L K) {ops : Array Oper} {id : Nat} {k : List Item} {env : Env} {H : Heap} {nx : Nat} {dfs : List Nat} (p : Plan) (qn : List Nat) (hB : quietB ops qn = true) (hp : planB ops qn p [] (Array.replicate ops.size false) = true) (hlen : p.len = ops.size)
    (h : drawP κ x P gl nt ops dfs (fun env H nx => Sat κ x ⟨k, env, H, nx, dfs⟩) p env H nx) : Sat κ x ⟨.code (.region id ops true) :: k, env, H, nx, dfs⟩ := e.rnd.draw p qn hB hp hlen h

/-- THE LOOP'S OWN FUNCTION IS CALLED: a round is walked here, and its end leads on. -/
theorem Does.roundL {P0 : Program} {x : Ctx} {id : Nat} {args : List SV} {nx : Nat} {H : Heap} {K : SV → Heap → Nat → Prop} {P : Program} {gl : Gl} (hP : P0 = P) (hgl : x.gl = gl) (hm : P.follows .mixedOrders = true) {L : LR} {pd : Option Code} {nt : Nat} {env : Env} {ps : Array Tmp} {asg body : Code}
    {st : LoopState} (hid : H.get id = some (L.blk st pd)) (l1 : L.nt = nt) (l2 : L.env = env) (l3 : L.ps = ps) (l4 : L.asg = asg) (l5 : L.body = body) (hps : ps.size = args.length) (hb : (ps.toList.all fun t => Nat.blt t nt) = true)
    (h : ∀ κ' x', RndL κ' x' P gl nt id nx L K → Sat κ' x' ⟨[.code asg, .beginRound, .code body], bindP ps.toList args env, H, nx, []⟩) : Does P0 x (.yl id) args nx H K := by
  subst l1 l2 l3 l4 l5
  exact Does.round hP hgl hm hid hps hb fun κ' x' r => h κ' x' ⟨r, r.hP, r.hgl, r.hm, fun {_ _ _ _ _ _} h1 h2 => r.beg _ _ _ _ _ _ _ _ _ _ _ _ _ h1 h2, fun {_ _ _ _ _} h1 h2 => r.fin _ _ _ _ _ _ _ _ _ _ _ _ h1 h2, fun {_ _ _ _ _ _} h1 h2 => r.ret _ _ _ _ _ _ _ _ _ _ _ _ _ h1 h2, fun {_ _ _ _ _ _ _} h0 h1 h2 => r.exit _ _ _ _ _ _ _ _ _ _ _ _ _ _ h0 h1 h2⟩
end Go.Sy
namespace Go.Sy
open Go
set_option linter.unusedSimpArgs false
set_option linter.unusedVariables false

/-- What stands around a value in a result. -/
structure Pre (pre : SV → SV) : Prop where
  ren : ∀ σ s, (pre s).ren σ = pre (s.ren σ)
  bnd : ∀ m s, s.bnd m → (pre s).bnd m
  lend : ∀ H V s, lendS H V (pre s) = pre (lendS H V s)
  lendP : ∀ H V s, lendP H V s → lendP H V (pre s)
/-- A slice of new elements in a result. -/
abbrev RetP (T : TypeId) (sz : Nat) (pre : SV → SV) (xs : List (List SV)) : SV → Heap → Nat → Prop := fun s H n => ∃ cap, xs.length ≤ cap ∧ s = pre (.sl 0 sz 0 xs.length cap) ∧ H = [(0, .row sz cap T xs)] ∧ n = 1
theorem Post.rowP {T : TypeId} {sz cap len : Nat} {pre : SV → SV} (hp : Pre pre) {xs : List (List SV)} {H : Heap} {nx i : Nat} (hi : H.get i = some (.row sz cap T xs)) (hl : len = xs.length) : Post 0 (RetP T sz pre xs) (pre (.sl i sz 0 len cap)) H nx := by
  intro x ν ν' w v hx hm hn hg hH hv
  have hc : xs.length ≤ cap := (hH.ok i _ hi).2.1
  exact Post.via 1 (fun _ => i) (pre (.sl 0 sz 0 len cap)) [(0, .row sz cap T xs)] ⟨cap, hc, by rw [hl], rfl, rfl⟩ (by rw [hp.ren]; rfl) (hp.bnd _ _ (Nat.lt_succ_self 0)) (fun a b _ _ _ => by omega) (.cons (Nat.lt_succ_self 0) trivial hi .nil) ⟨Nat.zero_le _, fun a h => absurd h (Nat.not_lt_zero a)⟩ x ν ν' w v hx hm hn hg hH hv
theorem Con.toRdP {P : Program} {gl : Gl} {f : SV} {args : List SV} {T : TypeId} {sz : Nat} {pre : SV → SV} (hp : Pre pre) {xs : List (List SV)} (hb : (pre (.rd sz xs)).closed) (h : Con P gl f args 0 [] (RetP T sz pre xs)) : Con P gl f args 0 [] (Ret (pre (.rd sz xs))) := by
  intro ν w fv vs h1 h2 h3 h4
  refine (h ν w fv vs h1 h2 h3 h4).mono ?_
  rintro v w' ⟨ν', s, H', ⟨cap, hc, rfl, rfl, h5⟩, hg, hH, hs⟩
  obtain ⟨_, hnc, _⟩ := hH.ok 0 _ rfl
  have hq : Go.Sy.lendP [(0, Blk.row sz cap T xs)] [0] (.sl 0 sz 0 xs.length cap) := by
    simp only [Go.Sy.lendP, List.mem_singleton, if_true, Heap.get, lendSlP]
    exact ⟨by omega, hnc, fun h => by omega⟩
  have e1 : lendS [(0, Blk.row sz cap T xs)] [0] (.sl 0 sz 0 xs.length cap) = .rd sz xs := by
    simp [lendS, lendSl, Heap.get]
  have := Post.frz (m := 0) (Q := Ret (pre (.rd sz xs))) (nx := ν'.nx) [0] (hp.lendP _ _ _ hq) (by rw [hp.lend, e1]; exact .ret hb)
  exact this (ctxOf gl ν [] w) ν ν' w' v rfl h1 rfl hg hH hs
theorem Does.rowP {P0 : Program} {x : Ctx} {f : SV} {args : List SV} {nx : Nat} {H : Heap} {K : SV → Heap → Nat → Prop} {P : Program} {gl : Gl} (hP : P0 = P) (hgl : x.gl = gl) {T : TypeId} {sz : Nat} {pre : SV → SV} (hp : Pre pre) {xs : List (List SV)} (h : Con P gl f args 0 [] (RetP T sz pre xs)) (hc : f.closed ∧ SV.bndL 0 args)
    (next : ∀ cap, xs.length ≤ cap → K (pre (.sl nx sz 0 xs.length cap)) ((nx, .row sz cap T xs) :: H) (nx + 1)) : Does P0 x f args nx H K := by
  have hren : ∀ l : List SV, SV.bndL 0 l → ∀ σ, l = SV.renL σ l := fun l hl σ => by rw [SV.renL_bnd (σ := σ) (τ := id) (m := 0) (fun i hi => absurd hi (Nat.not_lt_zero i)) l hl, SV.renL_id]
  refine Does.fn hP hgl 0 id [] f args [] h (SV.ren_closed hc.1 _).symm (hren _ hc.2 _) hc.1 hc.2 (fun i hi => absurd hi (Nat.not_lt_zero i)) (fun i j hi => absurd hi (Nat.not_lt_zero i)) (fun i b hb => by simp [Heap.get] at hb) ?_
  rintro s' H' n' ⟨cap, hc, rfl, rfl, rfl⟩
  refine ⟨.cons (by simp) .nil, fun _ => ?_⟩
  rw [without_nil, hp.ren]
  exact next cap hc
theorem Pre.agg1 : Pre fun r => .agg [r] := ⟨fun _ _ => by simp only [SV.ren, SV.renL], fun _ _ h => ⟨h, trivial⟩, fun _ _ _ => by simp only [lendS, lendL], fun _ _ _ h => by simp only [Go.Sy.lendP, lendPL]; exact ⟨h, trivial⟩⟩
theorem Pre.aggE {pre : SV → SV} (h : Pre pre) (e : Value) : Pre fun r => .tup [pre r, .v e] := ⟨fun σ s => by simp only [SV.ren, SV.renL, h.ren], fun m s hs => ⟨h.bnd m s hs, trivial, trivial⟩, fun H V s => by simp only [lendS, lendL, h.lend], fun H V s hs => by simp only [Go.Sy.lendP, lendPL]; exact ⟨h.lendP H V s hs, trivial, trivial⟩⟩
theorem Pre.aggE2 {pre : SV → SV} (h : Pre pre) (e e2 : Value) : Pre fun r => .tup [pre r, .v e, .v e2] := ⟨fun σ s => by simp only [SV.ren, SV.renL, h.ren], fun m s hs => ⟨h.bnd m s hs, trivial, trivial, trivial⟩, fun H V s => by simp only [lendS, lendL, h.lend], fun H V s hs => by simp only [Go.Sy.lendP, lendPL]; exact ⟨h.lendP H V s hs, trivial, trivial, trivial⟩⟩

theorem drawP_m (κ : Kx) (x : Ctx) (P : Program) (gl : Gl) (nt : Nat) (ops : Array Oper) (dfs : List Nat) (fin : Env → Heap → Nat → Prop) (env : Env) (H : Heap) (nx i : Nat) (rs : List Nat) (p : Plan) : drawP κ x P gl nt ops dfs fin (.m i rs p) env H nx =
    match ops[i]? with
    | none => False
    | some o => dstOK nt o.dst ∧ guardP ops env o (dl κ x P gl ops dfs rs o env H nx (drawP κ x P gl nt ops dfs fin p)) := rfl
theorem drawP_c (κ : Kx) (x : Ctx) (P : Program) (gl : Gl) (nt : Nat) (ops : Array Oper) (dfs : List Nat) (fin : Env → Heap → Nat → Prop) (env : Env) (H : Heap) (nx i : Nat) (rs : List Nat) (p : Plan) (f : Bool) : drawP κ x P gl nt ops dfs fin (.c f i rs p) env H nx =
    match ops[i]? with
    | none => False
    | some o => dstOK nt o.dst ∧ guardP ops env o (dlc P gl f ops rs o env H nx (drawP κ x P gl nt ops dfs fin p)) := rfl
theorem drawP_or (κ : Kx) (x : Ctx) (P : Program) (gl : Gl) (nt : Nat) (ops : Array Oper) (dfs : List Nat) (fin : Env → Heap → Nat → Prop) (env : Env) (H : Heap) (nx : Nat) (p q : Plan) : drawP κ x P gl nt ops dfs fin (.or p q) env H nx =
    (drawP κ x P gl nt ops dfs fin p env H nx ∧ drawP κ x P gl nt ops dfs fin q env H nx) := rfl
theorem Pre.id : Pre fun r => r := ⟨fun _ _ => rfl, fun _ _ h => h, fun _ _ _ => rfl, fun _ _ _ h => h⟩
/- The executor that stays ahead of each statement that draws its order. -/
def drawC : Code → Bool
  | .region _ _ b => b
  | .skip => false
  | .seq .. => false
  | .cond .. => false
  | .block .. => false
  | .loop _ => false
  | .rangeFunc .. => false
  | .exit _ => false
  | .scope _ => false
  | .label _ => false
  | .goto _ => false
  | .ret => false
  | .refuse _ => false
def isDraw : List Item → Bool
  | [] => false
  | .code c :: _ => drawC c
  | .inBlock _ :: _ => false
  | .inLoop _ :: _ => false
  | .inScope _ :: _ => false
  | .inRegion .. :: _ => false
  | .inRangeFunc _ :: _ => false
  | .endRangeFunc _ :: _ => false
  | .beginRound :: _ => false
  | .call .. :: _ => false
  | .extern .. :: _ => false
def halt (c : Cfg) (o : Out) : Bool → Out
  | true => .stop c
  | false => o
def execD (P : Program) (gl : Gl) (nt : Nat) : Nat → Cfg → Out
  | 0, c => .stop c
  | n + 1, c => halt c (runR (execD P gl nt n) (stepS P gl nt c)) (isDraw c.todo)
theorem execD_zero (P : Program) (gl : Gl) (nt : Nat) (c : Cfg) : execD P gl nt 0 c = .stop c := rfl
theorem execD_succ (P : Program) (gl : Gl) (nt n : Nat) (c : Cfg) : execD P gl nt (n + 1) c = halt c (runR (execD P gl nt n) (stepS P gl nt c)) (isDraw c.todo) := rfl
theorem execD_sound {κ : Kx} {x : Ctx} : ∀ (n : Nat) (c : Cfg), OutOK κ x (execD κ.P x.gl κ.nt n c) → Sat κ x c
  | 0, _, h => h
  | n + 1, c, h => by
    rw [execD_succ] at h
    cases hd : isDraw c.todo with
    | true => rw [hd] at h; exact h
    | false => rw [hd] at h; exact step_sound (execD_sound n) c h
theorem Ends.runD {κ : Kx} {x : Ctx} {P : Program} {gl : Gl} {nt m : Nat} {res : List ResultVar} {R : SV → Heap → Nat → Prop} (e : Ends κ x P gl nt res m R) {c : Cfg} (n : Nat) (h : OutOK κ x (execD P gl nt n c)) : Sat κ x c := by
  obtain ⟨rfl, rfl, rfl, _, _, _, _⟩ := e
  exact execD_sound n c h
/- The executor that stays ahead of a statement that is named by its number. -/
def atC (r : Nat) : Code → Bool
  | .region i _ _ => i == r
  | .skip => false
  | .seq .. => false
  | .cond .. => false
  | .block .. => false
  | .loop _ => false
  | .rangeFunc .. => false
  | .exit _ => false
  | .scope _ => false
  | .label _ => false
  | .goto _ => false
  | .ret => false
  | .refuse _ => false
def isAt (r : Nat) : List Item → Bool
  | [] => false
  | .code c :: _ => atC r c
  | .inBlock _ :: _ => false
  | .inLoop _ :: _ => false
  | .inScope _ :: _ => false
  | .inRegion .. :: _ => false
  | .inRangeFunc _ :: _ => false
  | .endRangeFunc _ :: _ => false
  | .beginRound :: _ => false
  | .call .. :: _ => false
  | .extern .. :: _ => false
def execA (P : Program) (gl : Gl) (nt r : Nat) : Nat → Cfg → Out
  | 0, c => .stop c
  | n + 1, c => halt c (runR (execA P gl nt r n) (stepS P gl nt c)) (isAt r c.todo)
theorem execA_zero (P : Program) (gl : Gl) (nt r : Nat) (c : Cfg) : execA P gl nt r 0 c = .stop c := rfl
theorem execA_succ (P : Program) (gl : Gl) (nt r n : Nat) (c : Cfg) : execA P gl nt r (n + 1) c = halt c (runR (execA P gl nt r n) (stepS P gl nt c)) (isAt r c.todo) := rfl
theorem execA_sound {κ : Kx} {x : Ctx} (r : Nat) : ∀ (n : Nat) (c : Cfg), OutOK κ x (execA κ.P x.gl κ.nt r n c) → Sat κ x c
  | 0, _, h => h
  | n + 1, c, h => by
    rw [execA_succ] at h
    cases hd : isAt r c.todo with
    | true => rw [hd] at h; exact h
    | false => rw [hd] at h; exact step_sound (execA_sound r n) c h
theorem Ends.runA {κ : Kx} {x : Ctx} {P : Program} {gl : Gl} {nt m : Nat} {res : List ResultVar} {R : SV → Heap → Nat → Prop} (e : Ends κ x P gl nt res m R) {c : Cfg} (r n : Nat) (h : OutOK κ x (execA P gl nt r n c)) : Sat κ x c := by
  obtain ⟨rfl, rfl, rfl, _, _, _, _⟩ := e
  exact execA_sound r n c h
theorem Rnd.runA {κ : Kx} {x : Ctx} {P : Program} {gl : Gl} {nt i m : Nat} {K : SV → Heap → Nat → Prop} (e : Rnd κ x P gl nt i m K) {c : Cfg} (r n : Nat) (h : OutOK κ x (execA P gl nt r n c)) : Sat κ x c := by
  obtain ⟨rfl, rfl, rfl, _, _, _, _, _, _⟩ := e
  exact execA_sound r n c h
theorem RndL.runA {κ : Kx} {x : Ctx} {P : Program} {gl : Gl} {nt i m : Nat} {L : LR} {K : SV → Heap → Nat → Prop} (e : RndL κ x P gl nt i m L K) {c : Cfg} (r n : Nat) (h : OutOK κ x (execA P gl nt r n c)) : Sat κ x c := e.rnd.runA r n h
/- The executor that stays ahead of an operation: the i-th one of a statement of n. -/
def isOp (i n : Nat) : List Item → Bool
  | [] => false
  | .code _ :: _ => false
  | .inBlock _ :: _ => false
  | .inLoop _ :: _ => false
  | .inScope _ :: _ => false
  | .inRegion ops l :: _ => match l with | [] => false | j :: _ => j == i && ops.size == n
  | .inRangeFunc _ :: _ => false
  | .endRangeFunc _ :: _ => false
  | .beginRound :: _ => false
  | .call .. :: _ => false
  | .extern .. :: _ => false
def execO (P : Program) (gl : Gl) (nt i m : Nat) : Nat → Cfg → Out
  | 0, c => .stop c
  | n + 1, c => halt c (runR (execO P gl nt i m n) (stepS P gl nt c)) (isOp i m c.todo)
theorem execO_zero (P : Program) (gl : Gl) (nt i m : Nat) (c : Cfg) : execO P gl nt i m 0 c = .stop c := rfl
theorem execO_succ (P : Program) (gl : Gl) (nt i m n : Nat) (c : Cfg) : execO P gl nt i m (n + 1) c = halt c (runR (execO P gl nt i m n) (stepS P gl nt c)) (isOp i m c.todo) := rfl
theorem execO_sound {κ : Kx} {x : Ctx} (i m : Nat) : ∀ (n : Nat) (c : Cfg), OutOK κ x (execO κ.P x.gl κ.nt i m n c) → Sat κ x c
  | 0, _, h => h
  | n + 1, c, h => by
    rw [execO_succ] at h
    cases hd : isOp i m c.todo with
    | true => rw [hd] at h; exact h
    | false => rw [hd] at h; exact step_sound (execO_sound i m n) c h
theorem Ends.runO {κ : Kx} {x : Ctx} {P : Program} {gl : Gl} {nt m : Nat} {res : List ResultVar} {R : SV → Heap → Nat → Prop} (e : Ends κ x P gl nt res m R) {c : Cfg} (i j n : Nat) (h : OutOK κ x (execO P gl nt i j n c)) : Sat κ x c := by
  obtain ⟨rfl, rfl, rfl, _, _, _, _⟩ := e
  exact execO_sound i j n c h
theorem Rnd.runO {κ : Kx} {x : Ctx} {P : Program} {gl : Gl} {nt k m : Nat} {K : SV → Heap → Nat → Prop} (e : Rnd κ x P gl nt k m K) {c : Cfg} (i j n : Nat) (h : OutOK κ x (execO P gl nt i j n c)) : Sat κ x c := by
  obtain ⟨rfl, rfl, rfl, _, _, _, _, _, _⟩ := e
  exact execO_sound i j n c h
theorem RndL.runO {κ : Kx} {x : Ctx} {P : Program} {gl : Gl} {nt k m : Nat} {L : LR} {K : SV → Heap → Nat → Prop} (e : RndL κ x P gl nt k m L K) {c : Cfg} (i j n : Nat) (h : OutOK κ x (execO P gl nt i j n c)) : Sat κ x c := e.rnd.runO i j n h
theorem Rnd.runD {κ : Kx} {x : Ctx} {P : Program} {gl : Gl} {nt i m : Nat} {K : SV → Heap → Nat → Prop} (e : Rnd κ x P gl nt i m K) {c : Cfg} (n : Nat) (h : OutOK κ x (execD P gl nt n c)) : Sat κ x c := by
  obtain ⟨rfl, rfl, rfl, _, _, _, _, _, _⟩ := e
  exact execD_sound n c h
theorem RndL.runD {κ : Kx} {x : Ctx} {P : Program} {gl : Gl} {nt i m : Nat} {L : LR} {K : SV → Heap → Nat → Prop} (e : RndL κ x P gl nt i m L K) {c : Cfg} (n : Nat) (h : OutOK κ x (execD P gl nt n c)) : Sat κ x c := e.rnd.runD n h

/- slices of nothing: nil or not -/
/-- A slice of nothing that is handed over first: whether it is nil or not. -/
theorem Con.noArg {P : Program} {gl : Gl} {f : SV} {args : List SV} {m sz : Nat} {H : Heap} {Q : SV → Heap → Nat → Prop} (h : ∀ a cap, Con P gl f (.v (.slice a 0 cap) :: args) m H Q) : Con P gl f (.rd sz [] :: args) m H Q := by
  intro ν w fv vs h1 h2 h3 h4
  obtain ⟨y, ys, rfl, hy, hys⟩ := h4
  simp only [Rel] at hy
  obtain ⟨a, cap, xs, rfl, -⟩ := hy
  exact h a cap ν w fv _ h1 h2 h3 ⟨_, _, rfl, rfl, hys⟩
/-- What comes back may be told in other words. -/
theorem Con.repR {P : Program} {gl : Gl} {f : SV} {args : List SV} {s s' : SV} (hr : ∀ ν v, Rel ν s v → Rel ν s' v) (h : Con P gl f args 0 [] (Ret s)) : Con P gl f args 0 [] (Ret s') := by
  intro ν w fv vs h1 h2 h3 h4
  refine (h ν w fv vs h1 h2 h3 h4).mono ?_
  rintro v w' ⟨ν', s0, H', ⟨rfl, rfl, h5⟩, hg, hH, hs⟩
  exact ⟨ν', s', [], ⟨rfl, rfl, h5⟩, hg, hH, hr _ _ hs⟩
theorem Rel.aggMap {ν : Nm} {l l' : List SV} (h : ∀ vs, RelL ν l vs → RelL ν l' vs) : ∀ v, Rel ν (.agg l) v → Rel ν (.agg l') v := fun v hv => by
  simp only [Rel] at hv ⊢
  obtain ⟨c, rfl, hc⟩ := hv
  exact ⟨c, rfl, h _ hc⟩
theorem Rel.tupMap {ν : Nm} {l l' : List SV} (h : ∀ vs, RelL ν l vs → RelL ν l' vs) : ∀ v, Rel ν (.tup l) v → Rel ν (.tup l') v := fun v hv => by
  simp only [Rel] at hv ⊢
  obtain ⟨c, rfl, hc⟩ := hv
  exact ⟨c, rfl, h _ hc⟩
theorem RelL.mapHead {ν : Nm} {s s' : SV} {l : List SV} (h : ∀ v, Rel ν s v → Rel ν s' v) : ∀ vs, RelL ν (s :: l) vs → RelL ν (s' :: l) vs := fun vs ⟨y, ys, e, h1, h2⟩ => ⟨y, ys, e, h y h1, h2⟩
/-- A nil slice alone, and at the head of a struct or a tuple. -/
theorem nil1 {ν : Nm} {sz : Nat} {l : List SV} : ∀ vs, RelL ν (.v (.slice none 0 0) :: l) vs → RelL ν (.rd sz [] :: l) vs := RelL.mapHead fun _ => nil_rd

theorem Con.argR {P : Program} {gl : Gl} {f : SV} {args args' : List SV} {m : Nat} {H : Heap} {Q : SV → Heap → Nat → Prop} (hr : ∀ ν vs, RelL ν args vs → RelL ν args' vs) (h : Con P gl f args' m H Q) : Con P gl f args m H Q :=
  fun ν w fv vs h1 h2 h3 h4 => h ν w fv vs h1 h2 h3 (hr ν vs h4)
/-- A block's cells in other words. -/
theorem Sat.repOwn {κ : Kx} {x : Ctx} {k : List Item} {env : Env} {H : Heap} {nx : Nat} {dfs : List Nat} (i : Nat) (cells cells' : List SV) (T : TypeId) (hi : H.get i = some (.own cells T)) (hr : ∀ ν vs, RelL ν cells vs → RelL ν cells' vs)
    (h : Sat κ x ⟨k, env, H.set i (.own cells' T), nx, dfs⟩) : Sat κ x ⟨k, env, H, nx, dfs⟩ := by
  intro ν w a hn hH hE hD
  refine h ν w a hn (hH.write hi trivial (fun _ _ => rfl) rfl (.refl _) ?_) hE hD
  obtain ⟨q1, c, q2, q3⟩ := hH.ok i _ hi
  exact ⟨q1, c, q2, hr _ _ q3⟩

/-- A result; the blocks that were handed in are as they were. -/
abbrev RetS (s : SV) (H0 : Heap) (m : Nat) : SV → Heap → Nat → Prop := fun s' H n => s' = s ∧ H = H0 ∧ n = m
/-- A call by contract that looks at blocks. -/
theorem Does.look {P0 : Program} {x : Ctx} {f : SV} {args : List SV} {nx : Nat} {H : Heap} {K : SV → Heap → Nat → Prop} {P : Program} {gl : Gl} (hP : P0 = P) (hgl : x.gl = gl) (m : Nat) (σ : Nat → Nat) (l : List Nat) (args0 : List SV) (H0 : Heap) {s : SV}
    (h : Con P gl f args0 m H0 (RetS s H0 m)) (hargs : args = SV.renL σ args0) (hc : f.closed ∧ SV.bndL m args0 ∧ s.closed) (hσ : ∀ i, i < m → σ i < nx) (hinj : ∀ i j, i < m → j < m → σ i = σ j → i = j)
    (hv : ∀ i b, H0.get i = some b → i < m ∧ b.bnd m ∧ σ i ∈ l ∧ H.get (σ i) = some (b.ren σ)) (ho : Once H0) (next : K s (renH (tau m nx σ) H0 ++ without l H) nx) : Does P0 x f args nx H K := by
  refine Does.fn hP hgl m σ l f args0 H0 h (SV.ren_closed hc.1 _).symm hargs (SV.bnd_mono (Nat.zero_le m) _ hc.1) hc.2.1 hσ hinj hv ?_
  rintro s' H' n' ⟨rfl, rfl, rfl⟩
  refine ⟨ho, fun _ => ?_⟩
  rw [SV.ren_closed hc.2.2, Nat.sub_self, Nat.add_zero]
  exact next
theorem Post.look {m : Nat} {s : SV} {H0 H : Heap} {nx : Nat} (hs : s.closed) (hv : HeapVia m id H0 H) : Post m (RetS s H0 m) s H nx :=
  .via m id s H0 ⟨rfl, rfl, rfl⟩ (SV.ren_id s).symm (SV.bnd_mono (Nat.zero_le m) s hs) (fun i j _ _ e => e) hv ⟨Nat.le_refl _, fun i _ => rfl⟩
/-- One block after the other. -/
theorem HeapIn.nil {m : Nat} {σ : Nat → Nat} {l : List Nat} {H : Heap} : ∀ i b, Heap.get [] i = some b → i < m ∧ b.bnd m ∧ σ i ∈ l ∧ H.get (σ i) = some (b.ren σ) := fun i b h => by simp [Heap.get] at h
theorem HeapIn.cons {m : Nat} {σ : Nat → Nat} {l : List Nat} {H H0 : Heap} {j : Nat} {c : Blk} (h1 : j < m) (h2 : c.bnd m) (h3 : σ j ∈ l) (h4 : H.get (σ j) = some (c.ren σ)) (h : ∀ i b, H0.get i = some b → i < m ∧ b.bnd m ∧ σ i ∈ l ∧ H.get (σ i) = some (b.ren σ)) :
    ∀ i b, Heap.get ((j, c) :: H0) i = some b → i < m ∧ b.bnd m ∧ σ i ∈ l ∧ H.get (σ i) = some (b.ren σ) := fun i b hb => by
  simp only [Heap.get] at hb
  split at hb
  · rename_i e
    subst e
    cases hb
    exact ⟨h1, h2, h3, h4⟩
  · exact h i b hb
end Go.Sy
namespace Go.Sy
open Go Go.ChangeShapes Go.WideShapes
set_option linter.unusedSimpArgs false
set_option linter.unusedVariables false

/-- The shape of a type: numbers, bools, slices (of elements of so many bytes), structs and arrays. -/
inductive Sh where
  | int (k : IntKind)
  | bool
  | slice (b : Nat) (e : Sh)
  | agg (fs : List Sh)
inductive Dt where
  | n (x : Int)
  | b (x : Bool)
  | l (xs : List Dt)
instance : Inhabited Dt := ⟨.l []⟩
mutual
def Sh.size : Sh → Nat
  | .int _ => 1
  | .bool => 1
  | .slice _ _ => 1
  | .agg fs => Sh.sizes fs
def Sh.sizes : List Sh → Nat
  | [] => 0
  | f :: fs => f.size + Sh.sizes fs
end
mutual
def cellsD : Sh → Dt → List SV
  | .int k, .n x => [.v (.int k x)]
  | .bool, .b x => [.v (.bool x)]
  | .slice _ e, .l xs => [.rd e.size (xs.map (cellsD e))]
  | .agg fs, .l xs => cellsDs fs xs
  | _, _ => []
def cellsDs : List Sh → List Dt → List SV
  | f :: fs, x :: xs => cellsD f x ++ cellsDs fs xs
  | _, _ => []
end
mutual
def good : Sh → Dt → Prop
  | .int k, .n x => k.min ≤ x ∧ x ≤ k.max
  | .bool, .b _ => True
  | .slice b e, .l xs => xs.length ≤ 9223372036854775807 ∧ xs.length * b ≤ 140737488351232 ∧ ∀ x ∈ xs, good e x
  | .agg fs, .l xs => goods fs xs
  | _, _ => False
def goods : List Sh → List Dt → Prop
  | [], [] => True
  | f :: fs, x :: xs => good f x ∧ goods fs xs
  | _, _ => False
end
/-- A struct's or an array's parts: their types and where they stand. -/
def partsOf (P : Program) (t : TypeId) : Option (List (TypeId × Nat)) := match P.underlying t with
  | some (.struct fs) => some (fs.toList.map fun f => (f.type, f.offset))
  | some (.array n e) => some ((List.range n).map fun i => (e, i * P.cellsOf e))
  | _ => none
mutual
def Sh.fits (P : Program) : Sh → TypeId → Bool
  | .int k, t => match P.underlying t with | some (.int k') => decide (k' = k) | _ => false
  | .bool, t => match P.underlying t with | some .bool => true | _ => false
  | .slice b e, t => match P.underlying t with | some (.slice e') => e.fits P e' && (P.cellsOf e' == e.size && (P.bytesOf e' == b && Nat.ble 1 e.size)) | _ => false
  | .agg fs, t => match partsOf P t with | some ps => Sh.fitss P fs ps 0 && P.cellsOf t == Sh.sizes fs | none => false
def Sh.fitss (P : Program) : List Sh → List (TypeId × Nat) → Nat → Bool
  | [], [], _ => true
  | f :: fs, p :: ps, o => f.fits P p.1 && (p.2 == o && (P.cellsOf p.1 == f.size && Sh.fitss P fs ps (o + f.size)))
  | _, _, _ => false
end

/-- All blocks of a world, to be read. -/
def roNm (w : World) : Nm := ⟨0, fun _ => 0, fun k => match w.heap[k]? with | some (.cells c _ _) => some c | _ => none⟩
theorem roNm_free (w : World) : (roNm w).free = roNm w := rfl
theorem roNm_holdsL (w : World) (gl : Gl) (hgl : GlOK gl (roNm w)) : Holds (ctxOf gl (roNm w) [] w) (roNm w) [] w where
  ok id b h := by simp [Heap.get] at h
  sep i b j c h := by simp [Heap.get] at h
  mine i b h := by simp [Heap.get] at h
  ro k c h := by
    simp only [roNm] at h
    split at h
    · rename_i c' T fz hk
      simp only [Option.some.injEq] at h
      subst h
      exact ⟨T, fz, hk⟩
    · cases h
  rosep i b h := by simp [Heap.get] at h
  ronew k c h := .inl h
  gl := hgl
  frame k _ _ := rfl
  size := Nat.le_refl _
  fix := .refl _
  anc := .refl _

theorem roNm_holds (w : World) : Holds (ctxOf [] (roNm w) [] w) (roNm w) [] w := roNm_holdsL w [] (fun g l h => by simp [Gl.get] at h)

theorem RelL.app {ν : Nm} : ∀ {a b : List SV} {x y : List Value}, RelL ν a x → RelL ν b y → RelL ν (a ++ b) (x ++ y)
  | [], b, x, y, h1, h2 => by simp only [RelL] at h1; subst h1; exact h2
  | s :: a, b, x, y, h1, h2 => by
    simp only [RelL] at h1
    obtain ⟨y0, ys, rfl, h3, h4⟩ := h1
    simp only [List.cons_append, RelL]
    exact ⟨y0, ys ++ y, rfl, h3, RelL.app h4 h2⟩

section
variable {H : Type} {enc : TypeId × Value → H} {P : Program} {w : World}

theorem cells?_get {a : Addr} {n : Nat} {cs : List Value} (h : w.cells? 0 a n = some cs) : cs.length = n ∧ ∀ i, i < n → w.cell? (a.add i) = cs[i]? := by
  unfold World.cells? at h
  rw [if_pos (Nat.zero_le _)] at h
  have h1 : cs.length = n := by simpa using mapM_some_length h
  refine ⟨h1, fun i hi => ?_⟩
  exact mapM_some_get h i i (by simp [hi])
theorem add_add (a : Addr) (m j : Nat) : (a.add m).add j = a.add (m + j) := by
  unfold Addr.add
  by_cases hm : m = 0
  · subst hm; simp
  · by_cases hj : j = 0
    · subst hj; simp
    · simp [hm, hj, Nat.add_assoc]
theorem flat_get {sz : Nat} {g : Nat → Option Value} {F : Nat → List Value} : ∀ (n s : Nat), (∀ i, s ≤ i → i < s + n → (F i).length = sz ∧ ∀ q, q < sz → g (i * sz + q) = (F i)[q]?) →
    (((List.range' s n).map F).flatten.length = n * sz ∧ ∀ j, j < n * sz → ((List.range' s n).map F).flatten[j]? = g (s * sz + j))
  | 0, s, _ => by simp
  | n + 1, s, h => by
    obtain ⟨h1, h2⟩ := h s (Nat.le_refl _) (by omega)
    obtain ⟨h3, h4⟩ := flat_get n (s + 1) (fun i hi hj => h i (by omega) (by omega))
    rw [List.range'_succ]
    simp only [List.map_cons, List.flatten_cons, List.length_append, h1, h3]
    refine ⟨by rw [Nat.succ_mul]; omega, fun j hj => ?_⟩
    by_cases hjs : j < sz
    · rw [List.getElem?_append_left (by omega), ← h2 j hjs]
    · rw [List.getElem?_append_right (by omega), h1, h4 (j - sz) (by rw [Nat.succ_mul] at hj; omega)]
      congr 1
      rw [Nat.succ_mul]; omega
theorem RelLL.range {ν : Nm} {f : Nat → List SV} {F : Nat → List Value} : ∀ l : List Nat, (∀ i ∈ l, RelL ν (f i) (F i)) → RelLL ν (l.map f) (l.map F).flatten
  | [], _ => rfl
  | i :: l, h => by
    simp only [List.map_cons, List.flatten_cons, RelLL]
    exact ⟨_, _, rfl, h i (by simp), RelLL.range l fun j hj => h j (by simp [hj])⟩
theorem cell_one {ν : Nm} : ∀ (sh : Sh) (d : Dt) (cs : List Value), RelL ν (cellsD sh d) cs → ∀ v ∈ cs, v.oneCell' = true := by
  have key : ∀ (l : List SV) (cs : List Value), (∀ s ∈ l, (∃ k n, s = .v (.int k n)) ∨ (∃ b, s = .v (.bool b)) ∨ ∃ sz xs, s = .rd sz xs) → RelL ν l cs → ∀ v ∈ cs, v.oneCell' = true := by
    intro l
    induction l with
    | nil => intro cs _ h v hv; simp only [RelL] at h; subst h; cases hv
    | cons s l ih =>
      intro cs hl h v hv
      simp only [RelL] at h
      obtain ⟨y, ys, rfl, h1, h2⟩ := h
      rcases List.mem_cons.1 hv with rfl | hv
      · rcases hl s (by simp) with ⟨k, n, rfl⟩ | ⟨b, rfl⟩ | ⟨sz, xs, rfl⟩
        · simp only [Rel] at h1; subst h1; rfl
        · simp only [Rel] at h1; subst h1; rfl
        · simp only [Rel] at h1; obtain ⟨a, cap, ys', rfl, _⟩ := h1; rfl
      · exact ih ys (fun s' hs' => hl s' (by simp [hs'])) h2 v hv
  have sh1 : ∀ sh : Sh, ∀ d : Dt, ∀ s ∈ cellsD sh d, (∃ k n, s = .v (.int k n)) ∨ (∃ b, s = .v (.bool b)) ∨ ∃ sz xs, s = .rd sz xs := by
    intro sh
    refine Sh.rec (motive_1 := fun sh => ∀ d : Dt, ∀ s ∈ cellsD sh d, (∃ k n, s = .v (.int k n)) ∨ (∃ b, s = .v (.bool b)) ∨ ∃ sz xs, s = .rd sz xs)
      (motive_2 := fun shs => ∀ ds : List Dt, ∀ s ∈ cellsDs shs ds, (∃ k n, s = .v (.int k n)) ∨ (∃ b, s = .v (.bool b)) ∨ ∃ sz xs, s = .rd sz xs) ?_ ?_ ?_ ?_ ?_ ?_ sh
    · intro k d s hs
      cases d <;> simp only [cellsD, List.mem_singleton, List.not_mem_nil] at hs
      exact .inl ⟨_, _, hs⟩
    · intro d s hs
      cases d <;> simp only [cellsD, List.mem_singleton, List.not_mem_nil] at hs
      exact .inr (.inl ⟨_, hs⟩)
    · intro b e _ d s hs
      cases d <;> simp only [cellsD, List.mem_singleton, List.not_mem_nil] at hs
      exact .inr (.inr ⟨_, _, hs⟩)
    · intro fs ih d s hs
      cases d <;> simp only [cellsD, List.not_mem_nil] at hs
      exact ih _ s hs
    · intro ds s hs; simp [cellsDs] at hs
    · intro f fs ih1 ih2 ds s hs
      cases ds with
      | nil => simp [cellsDs] at hs
      | cons d ds =>
        simp only [cellsDs, List.mem_append] at hs
        rcases hs with hs | hs
        · exact ih1 d s hs
        · exact ih2 ds s hs
  exact fun sh d cs h => key _ cs (sh1 sh d) h

theorem mem_all {e : TypeId} : ∀ {ds : List (DataW H)} {d : DataW H}, d ∈ ds → ∀ y ∈ d.weights P e, y ∈ DataW.weightsAll P e ds
  | d0 :: ds, d, hd, y, hy => by
    simp only [DataW.weightsAll, List.mem_append]
    rcases List.mem_cons.1 hd with rfl | hd
    · exact .inl hy
    · exact .inr (mem_all hd y hy)

mutual
theorem trod_sh : ∀ (sh : Sh) (t : TypeId) (fuel : Nat) (cs : List Value) (x : DataW H × List MemPlace), sh.fits P t = true → DataW.trod enc P w 0 (fun _ => true) true fuel t cs = some x →
    ∃ dt, ((∀ y ∈ x.1.weights P t, y ≤ reachBytes) → good sh dt) ∧ RelL (roNm w) (cellsD sh dt) cs ∧ cs.length = sh.size
  | .int k, t, fuel, cs, x, hf, h => by
    simp only [Sh.fits] at hf
    split at hf
    case h_2 => cases hf
    rename_i k' hu
    obtain rfl := of_decide_eq_true hf
    obtain ⟨n, rfl, rfl, hw⟩ := DataW.trod_int hu h
    refine ⟨.n n, fun _ => ?_, ⟨_, [], rfl, rfl, rfl⟩, rfl⟩
    simpa [Lit.wf, good] using hw
  | .bool, t, fuel, cs, x, hf, h => by
    simp only [Sh.fits] at hf
    split at hf
    case h_2 => cases hf
    rename_i hu
    obtain ⟨b, rfl, rfl⟩ := DataW.trod_bool hu h
    exact ⟨.b b, fun _ => trivial, ⟨_, [], rfl, rfl, rfl⟩, rfl⟩
  | .slice b e, t, fuel, cs, x, hf, h => by
    simp only [Sh.fits] at hf
    split at hf
    case h_2 => cases hf
    rename_i e' hu
    simp only [Bool.and_eq_true, beq_iff_eq] at hf
    obtain ⟨hf, hce, hby, hpos⟩ := hf
    have hpos : 1 ≤ e.size := Nat.le_of_ble_eq_true hpos
    rcases Go.Deep.open_slice hu h with ⟨rfl, rfl⟩ | ⟨a, len, cap, m, n, D, Pl, rfl, _, hl, hm, hmm, rfl, hx⟩
    · exact ⟨.l [], fun _ => ⟨Nat.zero_le _, by simp, by simp⟩, ⟨_, [], rfl, ⟨none, 0, [], rfl, Nat.le_refl _, by simp, rfl, by simp, by simp⟩, rfl⟩, rfl⟩
    simp only [if_true] at hmm
    subst hmm
    have hch : ∀ i, i < len → ∃ p : List Value × Dt, w.cells? 0 (a.add (i * P.cellsOf e')) (P.cellsOf e') = some p.1 ∧ ((∀ y ∈ (D i).weights P e', y ≤ reachBytes) → good e p.2) ∧ RelL (roNm w) (cellsD e p.2) p.1 ∧ p.1.length = e.size := by
      intro i hi
      obtain ⟨cs', h1, h2⟩ := hx i (by omega)
      obtain ⟨dt, q1, q2, q3⟩ := trod_sh e e' n cs' _ hf h2
      exact ⟨(cs', dt), h1, q1, q2, q3⟩
    obtain ⟨F, hF⟩ := Go.Deep.choose_lt hch
    have hflat := flat_get (sz := e.size) (g := fun j => w.cell? (a.add j)) (F := fun i => (F i).1) len 0 (fun i _ hi => by
      obtain ⟨h1, _, _, h4⟩ := hF i (by omega)
      rw [hce] at h1
      exact ⟨h4, fun q hq => by rw [← (cells?_get h1).2 q hq, add_add]⟩)
    rw [← List.range_eq_range'] at hflat
    simp only [Nat.zero_mul, Nat.zero_add] at hflat
    obtain ⟨hfl, hfg⟩ := hflat
    refine ⟨.l ((List.range len).map fun i => (F i).2), fun hwt => ?_, ⟨_, [], rfl, ?_, rfl⟩, rfl⟩
    · have h1 : (len + (m - len)) * P.bytesOf e' ≤ reachBytes := hwt _ (by simp [DataW.weights, hu])
      rw [hby] at h1
      have h2 : len * b ≤ (len + (m - len)) * b := Nat.mul_le_mul_right _ (by omega)
      have h3 : reachBytes = 140737488351232 := rfl
      have h4 : maxLen = 9223372036854775807 := rfl
      simp only [good, List.length_map, List.length_range]
      refine ⟨by omega, by omega, fun y hy => ?_⟩
      obtain ⟨i, hi, rfl⟩ := List.mem_map.1 hy
      have hi := List.mem_range.1 hi
      refine (hF i hi).2.1 fun y hy => hwt y ?_
      simp only [DataW.weights, hu, List.mem_cons, List.mem_append]
      exact .inr (.inl (mem_all (List.mem_map.2 ⟨i, List.mem_range.2 hi, rfl⟩) y hy))
    · simp only [Rel, roNm_free, List.length_map, List.length_range]
      refine ⟨some a, m, ((List.range len).map fun i => (F i).1).flatten, rfl, hl, ?_, ?_, ?_, fun hne => ?_⟩
      · intro y hy
        simp only [List.map_map, List.mem_map] at hy
        obtain ⟨i, hi, rfl⟩ := hy
        obtain ⟨_, _, h3, h4⟩ := hF i (List.mem_range.1 hi)
        rw [← h4, h3.length]; rfl
      · rw [List.map_map]
        exact RelLL.range _ fun i hi => (hF i (List.mem_range.1 hi)).2.2.1
      · intro v hv
        obtain ⟨l, hl', hv⟩ := List.mem_flatten.1 hv
        obtain ⟨i, hi, rfl⟩ := List.mem_map.1 hl'
        exact cell_one _ _ _ (hF i (List.mem_range.1 hi)).2.2.1 v hv
      · have h0 : 0 < len * e.size := Nat.mul_pos (Nat.pos_of_ne_zero hne) hpos
        have hc0 := hfg 0 h0
        obtain ⟨v0, hv0⟩ : ∃ v, w.cell? a = some v := by
          have : (((List.range len).map fun i => (F i).1).flatten)[0]? = some (((List.range len).map fun i => (F i).1).flatten[0]'(by omega)) := List.getElem?_eq_getElem _
          exact ⟨_, by rw [this] at hc0; simpa [Addr.add] using hc0.symm⟩
        obtain ⟨b', o, sp⟩ := a
        have hsp : sp = none := World.cell?_spot hv0
        subst hsp
        unfold World.cell? at hv0
        split at hv0
        case h_2 => cases hv0
        rename_i c T fz hb
        refine ⟨b', o, c, rfl, by simp only [roNm]; rw [hb], fun j hj => ?_⟩
        rw [hfl] at hj
        rw [hfg j hj]
        have : (⟨b', o, none⟩ : Addr).add j = ⟨b', o + j, none⟩ := by
          unfold Addr.add
          split
          · rename_i e0; subst e0; rfl
          · rfl
        rw [this]
        unfold World.cell?
        rw [hb]
        rfl
  | .agg fs, t, fuel, cs, x, hf, h => by
    simp only [Sh.fits] at hf
    split at hf
    case h_2 => cases hf
    rename_i ps hps
    simp only [Bool.and_eq_true, beq_iff_eq] at hf
    obtain ⟨hf, hsz⟩ := hf
    unfold partsOf at hps
    split at hps
    · rename_i fl hu
      simp only [Option.some.injEq] at hps
      subst hps
      obtain ⟨xs, n, _, rfl, hl, hxs, hp⟩ := DataW.trod_struct hu h
      obtain ⟨dts, h1, h2⟩ := trod_shs fs _ 0 n cs (xs.map (·.1)) hf (by rw [hl, hsz]; simp) (fun i p hp' => by
        simp only [List.getElem?_map, Option.map_eq_some_iff] at hp'
        obtain ⟨f, hf', rfl⟩ := hp'
        have := hp i f (by simpa using hf')
        obtain ⟨y, hy⟩ : ∃ y, xs[i]? = some y := by
          have hi : i < fl.size := by
            have := (List.getElem?_eq_some_iff.1 hf').1
            simpa using this
          exact ⟨xs[i]'(by omega), List.getElem?_eq_getElem _⟩
        exact ⟨y, by rw [← hy]; exact this, by simp [hy]⟩)
      refine ⟨.l dts, fun hwt => h1 fun i p y hp' hy z hz => hwt z ?_, by simpa [cellsD] using h2, by rw [hl, hsz]; rfl⟩
      simp only [DataW.weights, hu]
      simp only [List.getElem?_map, Option.map_eq_some_iff] at hp'
      obtain ⟨f, hf', rfl⟩ := hp'
      exact DataW.weights_mem_each (j := i) (by simp [hf']) hy z hz
    · rename_i n e' hu
      simp only [Option.some.injEq] at hps
      subst hps
      obtain ⟨xs, m, _, rfl, hl, hxs, hp⟩ := DataW.trod_array hu h
      obtain ⟨dts, h1, h2⟩ := trod_shs fs _ 0 m cs (xs.map (·.1)) hf (by rw [hl, hsz]; simp) (fun i p hp' => by
        simp only [List.getElem?_map, Option.map_eq_some_iff] at hp'
        obtain ⟨q, hq, rfl⟩ := hp'
        obtain ⟨hi, rfl⟩ : i < n ∧ i = q := by
          obtain ⟨h5, h6⟩ := List.getElem?_eq_some_iff.1 hq
          simp at h5 h6
          exact ⟨h5, h6⟩
        have := hp i hi
        obtain ⟨y, hy⟩ : ∃ y, xs[i]? = some y := ⟨xs[i]'(by omega), List.getElem?_eq_getElem _⟩
        exact ⟨y, by rw [← hy]; exact this, by simp [hy]⟩)
      refine ⟨.l dts, fun hwt => h1 fun i p y hp' hy z hz => hwt z ?_, by simpa [cellsD] using h2, by rw [hl, hsz]; rfl⟩
      simp only [DataW.weights, hu]
      simp only [List.getElem?_map, Option.map_eq_some_iff] at hp'
      obtain ⟨q, hq, rfl⟩ := hp'
      exact mem_all (List.mem_of_getElem? hy) z hz
    · cases hps
theorem trod_shs : ∀ (fs : List Sh) (ps : List (TypeId × Nat)) (o fuel : Nat) (cs : List Value) (xs : List (DataW H)), Sh.fitss P fs ps o = true → cs.length = o + Sh.sizes fs →
    (∀ (i : Nat) (p : TypeId × Nat), ps[i]? = some p → ∃ y, DataW.trod enc P w 0 (fun _ => true) true fuel p.1 ((cs.drop p.2).take (P.cellsOf p.1)) = some y ∧ xs[i]? = some y.1) →
    ∃ dts, ((∀ (i : Nat) (p : TypeId × Nat) (y : DataW H), ps[i]? = some p → xs[i]? = some y → ∀ z ∈ y.weights P p.1, z ≤ reachBytes) → goods fs dts) ∧ RelL (roNm w) (cellsDs fs dts) (cs.drop o)
  | [], [], o, fuel, cs, xs, _, hl, _ => by
    refine ⟨[], fun _ => trivial, ?_⟩
    simp only [Sh.sizes, Nat.add_zero] at hl
    rw [List.drop_of_length_le (by omega)]
    rfl
  | [], _ :: _, o, fuel, cs, xs, hf, _, _ => by simp [Sh.fitss] at hf
  | _ :: _, [], o, fuel, cs, xs, hf, _, _ => by simp [Sh.fitss] at hf
  | f :: fs, p :: ps, o, fuel, cs, xs, hf, hl, h => by
    simp only [Sh.fitss, Bool.and_eq_true, beq_iff_eq] at hf
    obtain ⟨hf1, rfl, hc, hf2⟩ := hf
    obtain ⟨y, hy, hx⟩ := h 0 p rfl
    obtain ⟨dt, q1, q2, q3⟩ := trod_sh f p.1 fuel _ y hf1 hy
    simp only [Sh.sizes] at hl
    obtain ⟨dts, r1, r2⟩ := trod_shs fs ps (p.2 + f.size) fuel cs (xs.drop 1) hf2 (by omega) (fun i p' hp' => by
      obtain ⟨y', h1, h2⟩ := h (i + 1) p' (by simpa using hp')
      exact ⟨y', h1, by rw [List.getElem?_drop, Nat.add_comm]; exact h2⟩)
    refine ⟨dt :: dts, fun hw => ⟨q1 fun z hz => hw 0 p y.1 rfl hx z hz, r1 fun i p' y' hp' hy' z hz => hw (i + 1) p' y' (by simpa using hp') (by rw [List.getElem?_drop, Nat.add_comm] at hy'; exact hy') z hz⟩, ?_⟩
    simp only [cellsDs]
    have e : cs.drop p.2 = (cs.drop p.2).take f.size ++ cs.drop (p.2 + f.size) := by
      rw [← List.drop_drop, List.take_append_drop]
    rw [e]
    rw [hc] at q2
    exact RelL.app q2 r2
end

/-- What an argument is. -/
def argD (sh : Sh) (d : Dt) : SV := match sh with
  | .agg fs => .agg (cellsD (.agg fs) d)
  | sh => match cellsD sh d with
    | [s] => s
    | _ => .v default
def argDs : List Sh → List Dt → List SV
  | s :: ss, d :: ds => argD s d :: argDs ss ds
  | _, _ => []
def Sh.fitl (P : Program) : List Sh → List TypeId → Bool
  | [], [] => true
  | s :: ss, t :: ts => s.fits P t && Sh.fitl P ss ts
  | _, _ => false

theorem arg_sh {sh : Sh} {t : TypeId} {v : Value} {d : DataW H} {ps : List MemPlace} {base : Nat} (hf : sh.fits P t = true) (hv : Value.okWide P w .any base t v) (h : DataW.Trod enc P w 0 (fun _ => true) true t v d ps) :
    ∃ dt, ((∀ y ∈ d.weights P t, y ≤ reachBytes) → good sh dt) ∧ Rel (roNm w) (argD sh dt) v := by
  obtain ⟨fuel, h⟩ := h
  obtain ⟨dt, h1, h2, h3⟩ := trod_sh sh t fuel _ _ hf h
  refine ⟨dt, h1, ?_⟩
  have one : (∀ cs, v ≠ .agg cs) → ∀ s, cellsD sh dt = [s] → Rel (roNm w) s v := by
    intro hna s hs
    rw [hs] at h2
    have hc : v.cells.toList = [v] := by
      cases v <;> simp_all [Value.cells]
    rw [hc] at h2
    simp only [RelL] at h2
    obtain ⟨y, ys, e, h5, h6⟩ := h2
    simp only [List.cons.injEq] at e
    obtain ⟨rfl, _⟩ := e
    exact h5
  cases sh with
  | int k =>
    simp only [Sh.fits] at hf
    split at hf
    case h_2 => cases hf
    rename_i k' hu
    obtain ⟨n, rfl⟩ := okWide_int hu hv
    cases dt with
    | n x => exact one (fun cs e => by cases e) _ rfl
    | b x => simp [cellsD, RelL, Value.cells] at h2
    | l x => simp [cellsD, RelL, Value.cells] at h2
  | bool =>
    simp only [Sh.fits] at hf
    split at hf
    case h_2 => cases hf
    rename_i hu
    have hna : ∀ cs, v ≠ .agg cs := by
      rintro cs rfl
      simp [Value.okWide, hu, Cell.okWide, Cell.ok] at hv
    cases dt with
    | b x => exact one hna _ rfl
    | n x => simp only [cellsD, RelL] at h2; rw [h2] at h3; cases h3
    | l x => simp only [cellsD, RelL] at h2; rw [h2] at h3; cases h3
  | slice b e =>
    simp only [Sh.fits] at hf
    split at hf
    case h_2 => cases hf
    rename_i e' hu
    obtain ⟨a, len, cap, rfl⟩ := okWide_slice hu hv
    cases dt with
    | l x => exact one (fun cs e => by cases e) _ rfl
    | n x => simp [cellsD, RelL, Value.cells] at h2
    | b x => simp [cellsD, RelL, Value.cells] at h2
  | agg fs =>
    simp only [Sh.fits] at hf
    split at hf
    case h_2 => cases hf
    rename_i q hq
    have : ∃ cs, v = .agg cs := by
      unfold partsOf at hq
      unfold Value.okWide at hv
      split at hq
      · rename_i fl hu
        rw [hu] at hv
        obtain ⟨cs, h5, _⟩ := hv
        exact ⟨cs, h5⟩
      · rename_i n e hu
        rw [hu] at hv
        obtain ⟨cs, h5, _⟩ := hv
        exact ⟨cs, h5⟩
      · cases hq
    obtain ⟨cs, rfl⟩ := this
    exact ⟨cs, rfl, h2⟩

theorem args_sh {base : Nat} : ∀ (shs : List Sh) (ts : List TypeId) (vs : List Value) (ds : List (DataW H)) (ps : List MemPlace), Sh.fitl P shs ts = true → (∀ (j : Nat) (t : TypeId) (v : Value), ts[j]? = some t → vs[j]? = some v → Value.okWide P w .any base t v) →
    DataW.TrodAll enc P w 0 (fun _ => true) true ts vs ds ps → ∃ dts, ((∀ y ∈ DataW.weightsEach P ts ds, y ≤ reachBytes) → goods shs dts) ∧ RelL (roNm w) (argDs shs dts) vs
  | [], [], vs, ds, ps, _, _, h => by
    obtain ⟨rfl, rfl, _⟩ := trodAll_nil h
    exact ⟨[], fun _ => trivial, rfl⟩
  | [], _ :: _, _, _, _, hf, _, _ => by cases hf
  | _ :: _, [], _, _, _, hf, _, _ => by cases hf
  | s :: ss, t :: ts, vs, ds, ps, hf, hv, h => by
    simp only [Sh.fitl, Bool.and_eq_true] at hf
    obtain ⟨v, vs', d, ds', p, q, rfl, rfl, rfl, h1, h2⟩ := trodAll_cons h
    obtain ⟨dt, q1, q2⟩ := arg_sh hf.1 (hv 0 t v rfl rfl) h1
    obtain ⟨dts, r1, r2⟩ := args_sh ss ts vs' ds' q hf.2 (fun j t' v' h3 h4 => hv (j + 1) t' v' (by simpa using h3) (by simpa using h4)) h2
    refine ⟨dt :: dts, fun hw => ⟨q1 fun y hy => hw y (by simp [DataW.weightsEach, hy]), r1 fun y hy => hw y (by simp [DataW.weightsEach, hy])⟩, ?_⟩
    exact ⟨v, vs', rfl, q2, r2⟩
end

/- what good data are -/
theorem good_int {k : IntKind} {d : Dt} (h : good (.int k) d) : ∃ n, d = .n n ∧ k.min ≤ n ∧ n ≤ k.max := by
  cases d <;> simp only [good] at h
  exact ⟨_, rfl, h⟩
theorem good_slice {b : Nat} {e : Sh} {d : Dt} (h : good (.slice b e) d) : ∃ xs, d = .l xs ∧ xs.length ≤ 9223372036854775807 ∧ xs.length * b ≤ 140737488351232 ∧ ∀ x ∈ xs, good e x := by
  cases d <;> simp only [good] at h
  exact ⟨_, rfl, h⟩
theorem good_agg {fs : List Sh} {d : Dt} (h : good (.agg fs) d) : ∃ xs, d = .l xs ∧ goods fs xs := by
  cases d <;> simp only [good] at h
  exact ⟨_, rfl, h⟩
theorem goods_nil {ds : List Dt} (h : goods [] ds) : ds = [] := by
  cases ds <;> simp only [goods] at h
  rfl
theorem goods_cons {f : Sh} {fs : List Sh} {ds : List Dt} (h : goods (f :: fs) ds) : ∃ x xs, ds = x :: xs ∧ good f x ∧ goods fs xs := by
  cases ds <;> simp only [goods] at h
  exact ⟨_, _, rfl, h⟩
/-- What each is of such a form, all are. -/
theorem all_of {α : Type} {p : Dt → Prop} {q : α → Prop} {F : α → Dt} (h : ∀ d, p d → ∃ x, d = F x ∧ q x) : ∀ xs : List Dt, (∀ x ∈ xs, p x) → ∃ ys : List α, xs = ys.map F ∧ ∀ y ∈ ys, q y
  | [], _ => ⟨[], rfl, by simp⟩
  | x :: xs, hx => by
    obtain ⟨y, rfl, hy⟩ := h x (hx x (by simp))
    obtain ⟨ys, rfl, hys⟩ := all_of h xs fun z hz => hx z (by simp [hz])
    exact ⟨y :: ys, rfl, by simpa using ⟨hy, hys⟩⟩
theorem good_ints {k : IntKind} {xs : List Dt} (h : ∀ x ∈ xs, good (.int k) x) : ∃ bs : List Int, xs = bs.map .n ∧ ∀ b ∈ bs, k.min ≤ b ∧ b ≤ k.max := all_of (fun _ => good_int) xs h
theorem cells_ints (k : IntKind) (bs : List Int) : (bs.map Dt.n).map (cellsD (.int k)) = bs.map (eI k) := by
  rw [List.map_map]; rfl

theorem rng_u8 {b : Int} (h : IntKind.u8.min ≤ b ∧ b ≤ IntKind.u8.max) : 0 ≤ b ∧ b ≤ 255 := by
  have e1 : IntKind.u8.min = 0 := by decide
  have e2 : IntKind.u8.max = 255 := by decide
  omega
theorem rng_u16 {b : Int} (h : IntKind.u16.min ≤ b ∧ b ≤ IntKind.u16.max) : 0 ≤ b ∧ b ≤ 65535 := by
  have e1 : IntKind.u16.min = 0 := by decide
  have e2 : IntKind.u16.max = 65535 := by decide
  omega
theorem rng_u32 {b : Int} (h : IntKind.u32.min ≤ b ∧ b ≤ IntKind.u32.max) : 0 ≤ b ∧ b ≤ 4294967295 := by
  have e1 : IntKind.u32.min = 0 := by decide
  have e2 : IntKind.u32.max = 4294967295 := by decide
  omega
theorem rng_u64 {b : Int} (h : IntKind.u64.min ≤ b ∧ b ≤ IntKind.u64.max) : 0 ≤ b ∧ b ≤ 18446744073709551615 := by
  have e1 : IntKind.u64.min = 0 := by decide
  have e2 : IntKind.u64.max = 18446744073709551615 := by decide
  omega
theorem rng_i64 {b : Int} (h : IntKind.i64.min ≤ b ∧ b ≤ IntKind.i64.max) : -9223372036854775808 ≤ b ∧ b ≤ 9223372036854775807 := by
  have e1 : IntKind.i64.min = -9223372036854775808 := by decide
  have e2 : IntKind.i64.max = 9223372036854775807 := by decide
  omega
theorem rng_i32 {b : Int} (h : IntKind.i32.min ≤ b ∧ b ≤ IntKind.i32.max) : -2147483648 ≤ b ∧ b ≤ 2147483647 := by
  have e1 : IntKind.i32.min = -2147483648 := by decide
  have e2 : IntKind.i32.max = 2147483647 := by decide
  omega

/-- A row of numbers that reads as these is these. -/
theorem ints_of_trod {H : Type} {enc : TypeId × Value → H} {P : Program} {w : World} {base fuel n : Nat} {spare : Nat → Bool} {held : Bool} {t e : TypeId} {k : IntKind} {cs : List Value} {x : DataW H × List MemPlace} (ht : P.underlying t = some (.array n e)) (he : P.underlying e = some (.int k)) (hc : P.cellsOf e = 1) (hct : P.cellsOf t = n)
    (h : DataW.trod enc P w base spare held fuel t cs = some x) (vs : List Int) (hx : x.1 = .agg (vs.map fun v => .lit (.int k v))) : cs = vs.map (Value.int k) := by
  obtain ⟨xs, m, rfl, rfl, hl, hn, hel⟩ := DataW.trod_array ht h
  simp only [DataW.agg.injEq] at hx
  have hvl : vs.length = n := by have := congrArg List.length hx; simp at this; omega
  apply List.ext_getElem?
  intro i
  by_cases hi : i < n
  · have h1 := hel i hi
    rw [hc] at h1
    simp only [Nat.mul_one] at h1
    have hi2 : i < cs.length := by omega
    have h2 : (cs.drop i).take 1 = [cs[i]] := by rw [List.drop_eq_getElem_cons hi2]; rfl
    have hi3 : i < xs.length := by omega
    rw [h2, List.getElem?_eq_getElem hi3] at h1
    have h4 : xs[i].1 = .lit (.int k vs[i]) := by
      have := congrArg (fun l => l[i]?) hx
      simp [List.getElem?_eq_getElem hi3, show i < vs.length by omega] at this
      exact this
    rw [List.getElem?_eq_getElem hi2, List.getElem?_map, List.getElem?_eq_getElem (by omega), Option.map_some]
    congr 1
    cases m with
    | zero => simp [DataW.trod] at h1
    | succ m =>
      generalize cs[i] = c at h1 ⊢
      cases c <;> simp [DataW.trod, he] at h1
      rename_i k' z
      obtain ⟨⟨rfl, _⟩, h1⟩ := h1
      rw [← h1] at h4
      simp at h4
      rw [h4]
  · rw [List.getElem?_eq_none (by omega), List.getElem?_eq_none (by simp; omega)]
/-- FROM A LAW TO ITS ROW's CONTRACT. -/
theorem Law.contractL {H : Type} {enc : TypeId × Value → H} {P : Program} {f : FuncId} {fn : Func} {s : ChangeSpec} {tb : TypeId} {shs : List Sh} {gl : Gl} (hvars : s.vars = []) (hres : fn.resultTypes = #[tb]) (htb : P.underlying tb = some .bool)
    (hfit : Sh.fitl P shs fn.params.toList = true) (hlaid : laidOutB P = true) (hread : (fn.params.toList.all fun t => P.readableRec t && decide (t < P.types.size)) = true)
    (hfn : ∀ ds : List (DataW H), ds.length = fn.params.size → (s.fn H ds).results = [.lit (.bool true)] ∧ (s.fn H ds).args = ds ∧ (s.fn H ds).vars = [])
    (hlaw : ∀ dts, goods shs dts → Law P gl f (argDs shs dts))
    (W : World) (hgl : GlOK gl (roNm W)) (base : Nat) (args : Array Value) (ds gs : List (DataW H)) (before : List MemPlace)
    (hval : ∀ (j : Nat) t v, fn.params[j]? = some t → args[j]? = some v → Value.okWide P W .any base t v)
    (hW : DataW.Whole enc P fn.params.toList s.vars false W args.toList ds gs before)
    (hsz : (DataW.weightsEach P (fn.params.toList ++ s.plain.varTypes P) (ds ++ gs)).all (· ≤ reachBytes) = true) :
    Calls P f args W fun e W' => ∃ v, e = .returned v ∧ s.post enc P fn false true false false W args v W' := by
  have hW' := hW
  obtain ⟨p, q, hA, hV, rfl, _, _⟩ := hW
  rw [hvars] at hV
  obtain ⟨rfl, rfl⟩ := trodVars_none hV
  obtain ⟨dts, h1, h2⟩ := args_sh shs _ _ ds p hfit (fun j t v h3 h4 => hval j t v (by simpa using h3) (by simpa using h4)) hA
  have hlen := (trodAll_length hA).2
  have hwt : ∀ y ∈ DataW.weightsEach P fn.params.toList ds, y ≤ reachBytes := by
    intro y hy
    have key : ∀ (ts : List TypeId) (ds : List (DataW H)) (us : List TypeId), ds.length = ts.length → ∀ y ∈ DataW.weightsEach P ts ds, y ∈ DataW.weightsEach P (ts ++ us) (ds ++ []) := by
      intro ts
      induction ts with
      | nil => intro ds us _ y hy; cases ds <;> simp [DataW.weightsEach] at hy
      | cons t ts ih =>
        intro ds us hl y hy
        cases ds with
        | nil => simp [DataW.weightsEach] at hy
        | cons d ds =>
          simp only [List.cons_append, DataW.weightsEach, List.mem_append] at hy ⊢
          rcases hy with hy | hy
          · exact .inl hy
          · exact .inr (ih ds us (by simpa using hl) y hy)
    simpa using List.all_eq_true.1 hsz y (key _ _ _ hlen y hy)
  have hl := hlaw dts (h1 hwt) (roNm W) W args.toList rfl (roNm_holdsL W gl hgl) h2
  have hlt : ∀ x ∈ p, x.block < W.heap.size := fun x hx => by simpa using hW'.lt x (by simp [hx])
  obtain ⟨e1, e2, e3⟩ := hfn ds (by simpa using hlen)
  have hargs : args.toList.toArray = args := by simp
  rw [hargs] at hl
  refine hl.mono ?_
  rintro e W' ⟨rfl, hx⟩
  have hb : Go.RowKit.Below W.heap.size W W' := ⟨hx.fix.os, hx.fix.tape, hx.fix.output, hx.size, hx.block⟩
  refine ⟨_, rfl, ds, [], p ++ [], [] ++ [], p, [], hW', ?_, ?_, ?_, hb.frame _, fun h => by cases h⟩
  · simp only [List.append_nil]
    rw [e1, hres]
    refine trodAll_mk1 ?_
    exact ⟨1, by simp [DataW.trod, Value.cells, htb]⟩
  · simp only [List.append_nil]
    rw [e2]
    have key : ∀ (ts : List TypeId) (vs : List Value) (ds : List (DataW H)) (p : List MemPlace), (∀ x ∈ p, x.block < W.heap.size) → (ts.all fun t => P.readableRec t && decide (t < P.types.size)) = true → DataW.TrodAll enc P W 0 (fun _ => true) true ts vs ds p →
        DataW.TrodAll enc P W' 0 (fun b => decide (b < W.heap.size)) true ts vs ds p := by
      intro ts
      induction ts with
      | nil => intro vs ds p _ _ h; obtain ⟨rfl, rfl, rfl⟩ := trodAll_nil h; exact rfl
      | cons t ts ih =>
        intro vs ds p hlt hr h
        obtain ⟨v, vs', d, ds', a, b, rfl, rfl, rfl, h3, h4⟩ := trodAll_cons h
        simp only [List.all_cons, Bool.and_eq_true, decide_eq_true_eq] at hr
        exact ⟨a, b, Go.RowKit.Below.trod hlaid hr.1.1 hr.1.2 h3 hb (fun x hx => hlt x (by simp [hx])), ih vs' ds' b (fun x hx => hlt x (by simp [hx])) (by simpa using hr.2) h4, rfl⟩
    exact key _ _ _ _ hlt hread hA
  · simp only [List.append_nil]
    rw [e3, hvars]
    rfl
theorem Law.contract {H : Type} {enc : TypeId × Value → H} {P : Program} {f : FuncId} {fn : Func} {s : ChangeSpec} {tb : TypeId} {shs : List Sh} (hvars : s.vars = []) (hres : fn.resultTypes = #[tb]) (htb : P.underlying tb = some .bool)
    (hfit : Sh.fitl P shs fn.params.toList = true) (hlaid : laidOutB P = true) (hread : (fn.params.toList.all fun t => P.readableRec t && decide (t < P.types.size)) = true)
    (hfn : ∀ ds : List (DataW H), ds.length = fn.params.size → (s.fn H ds).results = [.lit (.bool true)] ∧ (s.fn H ds).args = ds ∧ (s.fn H ds).vars = [])
    (hlaw : ∀ dts, goods shs dts → Law P [] f (argDs shs dts))
    (W : World) (base : Nat) (args : Array Value) (ds gs : List (DataW H)) (before : List MemPlace)
    (hval : ∀ (j : Nat) t v, fn.params[j]? = some t → args[j]? = some v → Value.okWide P W .any base t v)
    (hW : DataW.Whole enc P fn.params.toList s.vars false W args.toList ds gs before)
    (hsz : (DataW.weightsEach P (fn.params.toList ++ s.plain.varTypes P) (ds ++ gs)).all (· ≤ reachBytes) = true) :
    Calls P f args W fun e W' => ∃ v, e = .returned v ∧ s.post enc P fn false true false false W args v W' :=
  Law.contractL hvars hres htb hfit hlaid hread hfn hlaw W (fun g l h => by simp [Gl.get] at h) base args ds gs before hval hW hsz

end Go.Sy

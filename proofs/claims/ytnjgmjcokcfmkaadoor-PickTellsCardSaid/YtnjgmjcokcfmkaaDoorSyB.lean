/- The machine layer of the walk: what it is that a frame in some state lands in a wanted state; one step of each form of code. No condition. -/
import Derived.Calls
import Derived.Laws.Sem
import Derived.Laws.World
import Derived.Laws.Cells
import Derived.Laws.Append
import Derived.Laws.CopyRow
import Derived.Laws.Tables
import Derived.Deep.Quiet
namespace Go.Sy
open Go
set_option linter.unusedSimpArgs false
set_option linter.unusedVariables false

def Lands (P : Program) (m : Machine) (T : Machine → Prop) : Prop := ∃ m', Steps P m m' ∧ T m'

theorem Lands.step {P : Program} {m m₁ : Machine} {T : Machine → Prop} (h : step P m = .next m₁) (h' : Lands P m₁ T) : Lands P m T :=
  let ⟨m', s, t⟩ := h'; ⟨m', .head h s, t⟩
theorem Lands.steps {P : Program} {m m₁ : Machine} {T : Machine → Prop} (h : Steps P m m₁) (h' : Lands P m₁ T) : Lands P m T :=
  let ⟨m', s, t⟩ := h'; ⟨m', h.trans s, t⟩
theorem Lands.now {P : Program} {m : Machine} {T : Machine → Prop} (h : T m) : Lands P m T := ⟨m, .refl _ _, h⟩

/-- A frame: the fixed parts of 'b', the changing ones of 'a' and 'todo'. -/
def fr (b : Frame) (a : Act) (todo : List Item) : Frame :=
  { fn := b.fn, tmps := a.tmps, todo, defers := a.defers, mode := .run, kind := b.kind, roundOf := b.roundOf }

theorem fr_eval (b : Frame) (a : Act) (todo : List Item) (x : Operand) : (fr b a todo).eval x = a.eval x := by cases x <;> rfl
theorem fr_eval' (b : Frame) (a : Act) (todo : List Item) : (fr b a todo).eval = a.eval := funext (fr_eval b a todo)

section
variable {P : Program} {b : Frame} {a : Act} {k : List Item} {cs : List Frame} {w : World} {T : Machine → Prop}

theorem lands_skip (h : Lands P (lone (fr b a k) cs w) T) : Lands P (lone (fr b a (.code .skip :: k)) cs w) T :=
  .step (step_lone_go (by simp [stepG, stepG.exec, fr])) h
theorem lands_label {l : Nat} (h : Lands P (lone (fr b a k) cs w) T) : Lands P (lone (fr b a (.code (.label l) :: k)) cs w) T :=
  .step (step_lone_go (by simp [stepG, stepG.exec, fr])) h
theorem lands_inBlock {id : Nat} (h : Lands P (lone (fr b a k) cs w) T) : Lands P (lone (fr b a (.inBlock id :: k)) cs w) T :=
  .step (step_lone_go (by simp [stepG, stepG.exec, fr])) h
theorem lands_inScope {c : Code} (h : Lands P (lone (fr b a k) cs w) T) : Lands P (lone (fr b a (.inScope c :: k)) cs w) T :=
  .step (step_lone_go (by simp [stepG, stepG.exec, fr])) h
theorem lands_seq {x y : Code} (h : Lands P (lone (fr b a (.code x :: .code y :: k)) cs w) T) : Lands P (lone (fr b a (.code (.seq x y) :: k)) cs w) T :=
  .step (step_lone_go (by simp [stepG, stepG.exec, fr])) h
theorem lands_block {id : Nat} {c : Code} (h : Lands P (lone (fr b a (.code c :: .inBlock id :: k)) cs w) T) : Lands P (lone (fr b a (.code (.block id c) :: k)) cs w) T :=
  .step (step_lone_go (by simp [stepG, stepG.exec, fr])) h
theorem lands_scope {c : Code} (h : Lands P (lone (fr b a (.code c :: .inScope c :: k)) cs w) T) : Lands P (lone (fr b a (.code (.scope c) :: k)) cs w) T :=
  .step (step_lone_go (by simp [stepG, stepG.exec, fr])) h
theorem lands_loop {c : Code} (h : Lands P (lone (fr b a (.code c :: .inLoop c :: k)) cs w) T) : Lands P (lone (fr b a (.code (.loop c) :: k)) cs w) T :=
  .step (step_lone_go (by simp [stepG, stepG.exec, fr])) h
theorem lands_inLoop {c : Code} (h : Lands P (lone (fr b a (.code c :: .inLoop c :: k)) cs w) T) : Lands P (lone (fr b a (.inLoop c :: k)) cs w) T :=
  .step (step_lone_go (by simp [stepG, stepG.exec, fr])) h
theorem lands_cond {x : Operand} {c d : Code} {t : Bool} (ht : a.eval x = .bool t) (h : Lands P (lone (fr b a (.code (if t then c else d) :: k)) cs w) T) :
    Lands P (lone (fr b a (.code (.cond x c d) :: k)) cs w) T :=
  .step (step_lone_go (by
    have := fr_eval b a (.code (.cond x c d) :: k) x
    simp only [fr] at this
    simp [stepG, stepG.exec, fr, this, ht])) h
theorem lands_exit {id : Nat} {k' : List Item} (hk : exitTo id k = some k') (h : Lands P (lone (fr b a k') cs w) T) : Lands P (lone (fr b a (.code (.exit id) :: k)) cs w) T :=
  .step (step_lone_go (by simp [stepG, stepG.exec, fr, hk])) h
theorem lands_goto {l : Nat} {k' : List Item} (hk : gotoIn l k = some k') (h : Lands P (lone (fr b a k') cs w) T) : Lands P (lone (fr b a (.code (.goto l) :: k)) cs w) T :=
  .step (step_lone_go (by simp [stepG, stepG.exec, fr, hk])) h
theorem lands_region {id : Nat} {ops : Array Oper} (h : Lands P (lone (fr b a (.inRegion ops (List.range ops.size) :: k)) cs w) T) :
    Lands P (lone (fr b a (.code (.region id ops false) :: k)) cs w) T :=
  .step (step_lone_go (by simp [stepG, stepG.exec, fr])) h
theorem lands_region_draw {id : Nat} {ops : Array Oper}
    (h : ∀ t, Lands P (lone (fr b a (.inRegion ops (Region.schedule (P.follows .mixedOrders) ops t) :: k)) cs { w with drawn := w.drawn + 1 }) T) :
    Lands P (lone (fr b a (.code (.region id ops true) :: k)) cs w) T :=
  .step (step_lone_go (by simp [stepG, stepG.exec, fr, choose, Sem.run, Question.forced, Question.cut])) (h (w.tape w.drawn (.order b.fn id)))
theorem lands_region_end {ops : Array Oper} (h : Lands P (lone (fr b a k) cs w) T) : Lands P (lone (fr b a (.inRegion ops [] :: k)) cs w) T :=
  .step (step_lone_go (by simp [stepG, stepG.exec, fr])) h

def put (t : Array Value) (dst : Option Tmp) (v : Value) : Array Value := match dst with | some d => t.setIfInBounds d v | none => t

theorem fr_finish (b : Frame) (a : Act) (ops : Array Oper) (i : Nat) (rest : List Nat) (k : List Item) (v : Value) :
    (fr b a (.inRegion ops (i :: rest) :: k)).finish v = fr b { a with tmps := put a.tmps ((ops[i]?).bind (·.dst)) v } (.inRegion ops rest :: k) := by
  cases h : (ops[i]?).bind (·.dst) <;> simp [Frame.finish, fr, put, h]

theorem lands_op_skip {ops : Array Oper} {i : Nat} {rest : List Nat} {o : Oper} (ho : ops[i]? = some o) (hw : Region.wanted o (yielded ops a.tmps) = false)
    (h : Lands P (lone (fr b { a with tmps := put a.tmps o.dst undef } (.inRegion ops rest :: k)) cs w) T) : Lands P (lone (fr b a (.inRegion ops (i :: rest) :: k)) cs w) T := by
  refine .step (m₁ := lone ((fr b a (.inRegion ops (i :: rest) :: k)).finish undef) cs w) (step_lone_go ?_) ?_
  · simp only [fr]
    simp [stepG, stepG.exec, ho, hw]
  · rw [fr_finish, ho]; exact h

theorem stepG_fr_op {ops : Array Oper} {i : Nat} {rest : List Nat} {o : Oper} (ho : ops[i]? = some o) (hw : Region.wanted o (yielded ops a.tmps) = true) (hd : ∀ c, o.op ≠ .defer c) :
    stepG P true { frame := fr b a (.inRegion ops (i :: rest) :: k), callers := cs, status := .running, dying := none } w =
      stepG.apply P true (fr b a (.inRegion ops (i :: rest) :: k)) cs none (execOp a.eval o) w := by
  have he : ∀ r, (Frame.mk b.fn a.tmps (.inRegion ops (i :: rest) :: k) a.defers .run b.kind r).eval = a.eval := fun r => funext fun x => by cases x <;> rfl
  cases hr : b.roundOf with
  | none => simp [stepG, stepG.exec, stepG.oper, Frame.oper?, fr, ho, hw, he, hr]
  | some l =>
    simp [stepG, stepG.exec, stepG.oper, Frame.oper?, fr, ho, hw, he, hr]
    cases hop : o.op <;> simp [hop] at hd ⊢

/-- An operation whose run hands back a value. -/
theorem lands_op_value {ops : Array Oper} {i : Nat} {rest : List Nat} {o : Oper} {v : Value} {w' : World} (ho : ops[i]? = some o) (hw : Region.wanted o (yielded ops a.tmps) = true)
    (hd : ∀ c, o.op ≠ .defer c) (hr : (execOp a.eval o).run P w = .ok (.value v) w')
    (h : Lands P (lone (fr b { a with tmps := put a.tmps o.dst v } (.inRegion ops rest :: k)) cs w') T) : Lands P (lone (fr b a (.inRegion ops (i :: rest) :: k)) cs w) T := by
  refine .step (m₁ := lone ((fr b a (.inRegion ops (i :: rest) :: k)).finish v) cs w') (step_lone_go ?_) ?_
  · rw [stepG_fr_op ho hw hd]; simp [stepG.apply, hr]
  · rw [fr_finish, ho]; exact h
theorem lands_op_unit {ops : Array Oper} {i : Nat} {rest : List Nat} {o : Oper} {w' : World} (ho : ops[i]? = some o) (hw : Region.wanted o (yielded ops a.tmps) = true)
    (hd : ∀ c, o.op ≠ .defer c) (hr : (execOp a.eval o).run P w = .ok .skip w')
    (h : Lands P (lone (fr b { a with tmps := put a.tmps o.dst undef } (.inRegion ops rest :: k)) cs w') T) : Lands P (lone (fr b a (.inRegion ops (i :: rest) :: k)) cs w) T := by
  refine .step (m₁ := lone ((fr b a (.inRegion ops (i :: rest) :: k)).finish undef) cs w') (step_lone_go ?_) ?_
  · rw [stepG_fr_op ho hw hd]; simp [stepG.apply, hr]
  · rw [fr_finish, ho]; exact h
end

/-- A function value 'f', called with 'args' in the world 'w' by any frame: it comes back with a value and a world of which R holds. -/
def CallsV (P : Program) (f : Value) (args : Array Value) (w : World) (R : Value → World → Prop) : Prop :=
  ∀ (c : Frame) (cs : List Frame), (∀ d x r s k, c.todo ≠ .call d x r s :: k) → (∀ r s k, c.todo ≠ .extern r s :: k) → c.kind ≠ .early →
    ∃ (v : Value) (w' : World) (f₁ : Frame) (cs₁ : List Frame) (w₁ : World), R v w' ∧
      (stepG.apply P true c cs none (do let d ← Deferred.ofValue f args; invoke d.target d.args) w).bare = GStep.go { frame := f₁, callers := cs₁, status := .running, dying := none } w₁ ∧
      Steps P (lone f₁ cs₁ w₁) (lone (c.finish v) cs w')

theorem CallsV.mono {P : Program} {f : Value} {args : Array Value} {w : World} {R R' : Value → World → Prop} (h : CallsV P f args w R) (hr : ∀ v w', R v w' → R' v w') : CallsV P f args w R' :=
  fun c cs h1 h2 h3 => let ⟨v, w', f₁, cs₁, w₁, r, rest⟩ := h c cs h1 h2 h3; ⟨v, w', f₁, cs₁, w₁, hr _ _ r, rest⟩

/-- A plain function. -/
theorem CallsV.of_calls {P : Program} {f : FuncId} {first caps args : Array Value} {w : World} {fn : Func} {R : Value → World → Prop}
    (hf : P.funcs[f]? = some fn) (hb : fn.body.isNone = false) (hn : (fn.name == "runtime.NumGoroutine") = false)
    (h : Calls P f (first ++ args ++ caps) w fun e w' => ∃ v, e = .returned v ∧ R v w') : CallsV P (.func (.func f) first caps) args w R := by
  intro c cs h1 h2 h3
  obtain ⟨e, w', fr', ⟨v, rfl, hR⟩, hs, _, hl⟩ := h (c :: cs)
  refine ⟨v, w', Frame.enter P f (first ++ args ++ caps) .normal, c :: cs, w, hR, ?_, ?_⟩
  · have hbody : ∃ x, fn.body = some x := by cases hx : fn.body with | none => simp [hx] at hb | some x => exact ⟨x, rfl⟩
    obtain ⟨x, hx⟩ := hbody
    have hrun : (do let d ← Deferred.ofValue (.func (.func f) first caps) args; invoke d.target d.args : Sem Next).run P w = .ok (.enter f (first ++ args ++ caps)) w := by
      have hn' : ¬ fn.name = "runtime.NumGoroutine" := by simpa using hn
      simp [Deferred.ofValue, invoke, callFunc, hf, hx, hn']
    simp only [stepG.apply, Sem.runT_eq, if_true, hrun, GStep.bare_after]
    congr 3
    split
    · rename_i heq; exact absurd heq (h1 _ _ _ _ _)
    · rfl
  · exact (show Steps P (lone (Frame.enter P f (first ++ args ++ caps) .normal) (c :: cs) w) (lone fr' (c :: cs) w') from hs).trans (.one (step_leave_returned hl))

section
variable {P : Program} {b : Frame} {a : Act} {k : List Item} {cs : List Frame} {w : World} {T : Machine → Prop}
/-- The operation that calls a function value. -/
theorem lands_op_call {ops : Array Oper} {i : Nat} {rest : List Nat} {o : Oper} {f : Operand} {args : Array Operand} {tys : Array TypeId} {R : Value → World → Prop}
    (ho : ops[i]? = some o) (hop : o.op = .call { callee := .value f, args, argTypes := tys }) (hw : Region.wanted o (yielded ops a.tmps) = true) (hk : b.kind ≠ .early)
    (hc : CallsV P (a.eval f) (args.map a.eval) w R)
    (h : ∀ v w', R v w' → Lands P (lone (fr b { a with tmps := put a.tmps o.dst v } (.inRegion ops rest :: k)) cs w') T) : Lands P (lone (fr b a (.inRegion ops (i :: rest) :: k)) cs w) T := by
  obtain ⟨v, w', frame, callers, w₁, hR, hs, hsteps⟩ := hc (fr b a (.inRegion ops (i :: rest) :: k)) cs (by simp [fr]) (by simp [fr]) hk
  have hg := stepG_fr_op (P := P) (b := b) (k := k) (cs := cs) (w := w) (rest := rest) ho hw (by rw [hop]; simp)
  have hex : execOp a.eval o = (do let d ← Deferred.ofValue (a.eval f) (args.map a.eval); invoke d.target d.args) := by
    simp only [execOp, hop, resolve]
  rw [hex] at hg
  refine .step (m₁ := lone frame callers w₁) (step_lone_go (by rw [hg]; exact hs)) ?_
  refine .steps hsteps ?_
  rw [fr_finish, ho]
  exact h v w' hR
end

/-- What a function's frame lands in. -/
def Back (P : Program) (f : FuncId) (cs : List Frame) (R : Value → World → Prop) (m : Machine) : Prop :=
  ∃ (fr' : Frame) (v : Value) (w' : World), m = lone fr' cs w' ∧ fr'.fn = f ∧ fr'.leaving P w' (.returned v) ∧ R v w'

def base (f : FuncId) : Frame := { (default : Frame) with fn := f, kind := .normal }

theorem calls_of_lands {P : Program} {f : FuncId} {fn : Func} {c : Code} {args : Array Value} {w : World} {R : Value → World → Prop}
    (hf : P.funcs[f]? = some fn) (hb : fn.body = some c)
    (h : ∀ cs, Lands P (lone (fr (base f) { tmps := args ++ Array.replicate (fn.ntmps - args.size) undef, defers := [] } [.code c]) cs w) (Back P f cs R)) :
    Calls P f args w fun e w' => ∃ v, e = .returned v ∧ R v w' := by
  intro cs
  obtain ⟨m', hs, fr', v, w', rfl, hfn, hl, hR⟩ := h cs
  have henter : Frame.enter P f args .normal = fr (base f) { tmps := args ++ Array.replicate (fn.ntmps - args.size) undef, defers := [] } [.code c] := by
    simp [Frame.enter, fr, hf, hb, base]
    rfl
  refine ⟨.returned v, w', fr', ⟨v, rfl, hR⟩, ?_, hfn, hl⟩
  rw [henter]
  exact hs

section
variable {P : Program} {f : FuncId} {fn : Func} {a : Act} {k : List Item} {cs : List Frame} {w : World} {R : Value → World → Prop}
/-- The end of a function, no deferred call. -/
theorem lands_ret {v : Value} (hf : P.funcs[f]? = some fn) (hd : a.defers = []) (hr : (results fn a.tmps).run P w = .ok v w) (hR : R v w) :
    Lands P (lone (fr (base f) a (.code .ret :: k)) cs w) (Back P f cs R) := by
  refine .step (m₁ := lone { fr (base f) a (.code .ret :: k) with mode := .returning } cs w) (step_lone_go (by simp [stepG, stepG.exec, fr, base]; rfl)) (.now ?_)
  exact ⟨_, v, w, rfl, rfl, ⟨rfl, hd, rfl, fn, hf, hr⟩, hR⟩
theorem lands_end {v : Value} (hf : P.funcs[f]? = some fn) (hd : a.defers = []) (hr : (results fn a.tmps).run P w = .ok v w) (hR : R v w) :
    Lands P (lone (fr (base f) a []) cs w) (Back P f cs R) := by
  refine .step (m₁ := lone { fr (base f) a [] with mode := .returning } cs w) (step_lone_go (by simp [stepG, stepG.exec, fr, base]; rfl)) (.now ?_)
  exact ⟨_, v, w, rfl, rfl, ⟨rfl, hd, rfl, fn, hf, hr⟩, hR⟩
end
end Go.Sy
namespace Go.Sy
open Go
set_option linter.unusedSimpArgs false
set_option linter.unusedVariables false

/-- Symbolic values. 'rd': a slice that nobody writes, row by row; 'rp': a place in a row that nobody writes; 'arr': an array, row by row; 'mp': a map; 'yl': what a loop over a function hands to it. -/
inductive SV where
  | v (x : Value)
  | ptr (id sz e r : Nat)
  | sl (id sz off len cap : Nat)
  | rd (sz : Nat) (xs : List (List SV))
  | rp (x : List SV) (r : Nat)
  | arr (sz : Nat) (xs : List (List SV))
  | mp (id : Nat)
  | yl (id : Nat)
  | fn (f : Fn) (first caps : List SV)
  | agg (cs : List SV)
  | tup (vs : List SV)

/-- What the symbolic numbers of blocks stand for; the blocks that nobody writes. -/
structure Nm where
  nx : Nat
  blk : Nat → Nat
  ro : Nat → Option (Array Value)
/-- No number stands for anything. -/
def Nm.free (ν : Nm) : Nm := ⟨0, ν.blk, ν.ro⟩

mutual
def Rel (ν : Nm) : SV → Value → Prop
  | .v x, y => y = x
  | .ptr id sz e r, y => id < ν.nx ∧ y = .pointer (some ⟨ν.blk id, e * sz + r, none⟩)
  | .sl id sz off len cap, y => id < ν.nx ∧ ∃ a, y = .slice a len cap ∧ (0 < cap → a = some ⟨ν.blk id, off * sz, none⟩)
  | .rd sz xs, y => ∃ a cap ys, y = .slice a xs.length cap ∧ xs.length ≤ cap ∧ (∀ x ∈ xs, x.length = sz) ∧ RelLL ν.free xs ys ∧ (∀ v ∈ ys, v.oneCell' = true) ∧
      (xs.length ≠ 0 → ∃ b o c, a = some ⟨b, o, none⟩ ∧ ν.ro b = some c ∧ ∀ j, j < ys.length → c[o + j]? = ys[j]?)
  | .rp x r, y => ∃ b o c ys, y = .pointer (some ⟨b, o + r, none⟩) ∧ ν.ro b = some c ∧ RelL ν.free x ys ∧ ∀ j, j < ys.length → c[o + j]? = ys[j]?
  | .arr sz xs, y => ∃ c : Array Value, y = .agg c ∧ (∀ x ∈ xs, x.length = sz) ∧ RelLL ν.free xs c.toList ∧ ∀ v ∈ c.toList, v.oneCell' = true
  | .mp id, y => id < ν.nx ∧ y = .map (some (ν.blk id))
  | .yl id, y => id < ν.nx ∧ y = .func (.yield (ν.blk id)) #[] #[]
  | .fn f first caps, y => ∃ fs cs, y = .func f fs cs ∧ RelL ν first fs.toList ∧ RelL ν caps cs.toList
  | .agg xs, y => ∃ c, y = .agg c ∧ RelL ν xs c.toList
  | .tup xs, y => ∃ c, y = .tuple c ∧ RelL ν xs c.toList
def RelL (ν : Nm) : List SV → List Value → Prop
  | [], ys => ys = []
  | x :: xs, ys => ∃ y ys', ys = y :: ys' ∧ Rel ν x y ∧ RelL ν xs ys'
def RelLL (ν : Nm) : List (List SV) → List Value → Prop
  | [], ys => ys = []
  | x :: xs, ys => ∃ y ys', ys = y ++ ys' ∧ RelL ν x y ∧ RelLL ν xs ys'
end

abbrev Env := List (Nat × SV)
inductive Blk where
  /-- a whole block of the call's own, cell by cell -/
  | own (cells : List SV) (T : TypeId)
  /-- a whole block of the call's own that holds elements of sz cells each; there is room for cap -/
  | row (sz cap : Nat) (T : TypeId) (xs : List (List SV))
  /-- a map: are its keys structs, of which kinds of numbers; what they lead to -/
  | map (ag : Bool) (ks : List IntKind) (f : List Int → Option SV)
  /-- what a loop over a function has written down -/
  | loop (st : LoopState) (pend : Option Code) (fn : FuncId) (nt : Nat) (env : Env) (params : Array Tmp) (assign body : Code) (d : Nat)
  /-- another object of the call's own -/
  | obj (o : Obj)
  /-- an iterator over the map m, and the entries that it has seen -/
  | iter (m clock : Nat) (seen : Array Nat)

abbrev Heap := List (Nat × Blk)

def Env.get : Env → Nat → Option SV
  | [], _ => none
  | (t, x) :: e, s => if t = s then some x else Env.get e s
def Heap.get : Heap → Nat → Option Blk
  | [], _ => none
  | (t, x) :: e, s => if t = s then some x else Heap.get e s
def Heap.set : Heap → Nat → Blk → Heap
  | [], _, _ => []
  | (t, x) :: e, s, b => if t = s then (t, b) :: e else (t, x) :: Heap.set e s b
/-- A block is forgotten. -/
def Heap.drop : Heap → Nat → Heap
  | [], _ => []
  | (t, x) :: e, s => if t = s then Heap.drop e s else (t, x) :: Heap.drop e s

/-- What is known of package-level variables that nobody writes. -/
abbrev Gl := List (Nat × List Value)
def Gl.get : Gl → Nat → Option (List Value)
  | [], _ => none
  | (t, x) :: e, s => if t = s then some x else Gl.get e s
def svs (l : List Value) : List SV := l.map .v
def glS (g : Nat) : Option (List Value) → SV
  | some l => .rp (svs l) 0
  | none => .v (.pointer (some ⟨g, 0, none⟩))
def ev (gl : Gl) (env : Env) : Operand → Option SV
  | .tmp t => env.get t
  | .const v => some (.v v)
  | .global g => some (glS g (gl.get g))
  | .func f => some (.v (.func (.func f) #[] #[]))
def evs (gl : Gl) (env : Env) : List Operand → Option (List SV)
  | [] => some []
  | x :: xs => match ev gl env x, evs gl env xs with
    | some a, some as => some (a :: as)
    | _, _ => none

/-- What an operation comes to. -/
inductive R1 where
  | ok (x : SV) (H : Heap) (nx : Nat)
  | need (p : Prop) (r : R1)
  | all (k : Nat → R1)
  | fail (why : String)

structure Cfg where
  todo : List Item
  env : Env
  heap : Heap
  nx : Nat
  dfs : List Nat

/-- What a step comes to. -/
inductive SR where
  | next (c : Cfg)
  | need (p : Prop) (r : SR)
  | all (k : Nat → SR)
  | fork (t : Bool) (c d : Cfg)
  | guard (t want : Bool) (run : SR) (skip : Cfg)
  | call (f : SV) (args : List SV) (dst : Option Nat) (c : Cfg)
  | stop (c : Cfg)
  | fail (why : String)

inductive Out where
  | need (p : Prop) (o : Out)
  | all (k : Nat → Out)
  | call (f : SV) (args : List SV) (dst : Option Nat) (c : Cfg)
  | stop (c : Cfg)
  | fail (why : String)

/- types -/
def tySize (P : Program) (t : TypeId) : Option Nat := (P.info? t).map (·.size)
def tyBytes (P : Program) (t : TypeId) : Option Nat := (P.info? t).map (·.bytes)
def tyZero (P : Program) (t : TypeId) : Option (List Value) := ((P.info? t).bind (·.zero)).map (·.cells.toList)
def tyZeroV (P : Program) (t : TypeId) : Option Value := (P.info? t).bind (·.zero)
def aggD : TypeDesc → Bool
  | .struct _ | .array _ _ => true
  | _ => false
def tyAgg (P : Program) (t : TypeId) : Option Bool := (P.underlying t).map aggD
/-- A struct's field: its offset, its size, whether it is a struct or an array itself. -/
def tyField (P : Program) (t : TypeId) (i : Nat) : Option (Nat × Nat × Bool) :=
  match P.underlying t with
  | some (.struct fs) => match fs[i]? with
    | some f => match tySize P f.type, tyAgg P f.type with
      | some n, some b => some (f.offset, n, b)
      | _, _ => none
    | none => none
  | _ => none
/-- The fields' places. -/
def tyPlaces (P : Program) (t : TypeId) : Option (List (Nat × Nat)) :=
  match P.underlying t with
  | some (.struct fs) => fs.toList.mapM fun f => (P.info? f.type).map fun i => (f.offset, i.size)
  | some (.array n e) => (tySize P e).map fun s => (List.range n).map fun i => (i * s, s)
  | _ => none

/- lists of cells -/
def repeatL {α : Type} (l : List α) : Nat → List α
  | 0 => []
  | n + 1 => l ++ repeatL l n
def takeN {α : Type} : List α → Nat → Option (List α)
  | _, 0 => some []
  | [], _ + 1 => none
  | x :: l, n + 1 => match takeN l n with | some r => some (x :: r) | none => none
def cut {α : Type} : List α → Nat → Nat → Option (List α)
  | l, 0, n => takeN l n
  | [], _ + 1, _ => none
  | _ :: l, o + 1, n => cut l o n
def over {α : Type} : List α → List α → Option (List α)
  | l, [] => some l
  | [], _ :: _ => none
  | _ :: l, y :: ys => match over l ys with | some r => some (y :: r) | none => none
def paste {α : Type} : List α → Nat → List α → Option (List α)
  | l, 0, ys => over l ys
  | [], _ + 1, _ => none
  | x :: l, o + 1, ys => match paste l o ys with | some r => some (x :: r) | none => none
def aggOf : Bool → List SV → Option SV
  | true, cs => some (.agg cs)
  | false, [x] => some x
  | false, _ => none
def vals : List SV → Option (List Value)
  | [] => some []
  | .v x :: l => match vals l with | some r => some (x :: r) | none => none
  | _ :: _ => none
/-- A value's cells. -/
def cellsS : SV → List SV
  | .agg cs => cs
  | .v x => svs x.cells.toList
  | x => [x]
def one : SV → Prop
  | .v x => x.oneCell' = true
  | .agg _ | .tup _ | .arr .. => False
  | _ => True
def ones : List SV → Prop
  | [] => True
  | x :: l => one x ∧ ones l
def isArr : SV → Bool
  | .arr .. => true
  | _ => false
/-- It says nothing of numbers of blocks. -/
def idFree : SV → Bool
  | .v _ | .rd .. | .rp .. => true
  | _ => false
def idFrees : List SV → Bool
  | [] => true
  | x :: l => idFree x && idFrees l
/-- Rows of sz cells each. -/
def chunk (sz : Nat) : Nat → List SV → List (List SV)
  | 0, _ => []
  | n + 1, l => l.take sz :: chunk sz n (l.drop sz)
/-- A type whose values are the same if their cells are, each a number (true) or a bool. -/
def tyEq (P : Program) : Nat → TypeId → Option (List Bool)
  | 0, _ => none
  | d + 1, t => match P.underlying t with
    | some (.int _) => some [true]
    | some .bool => some [false]
    | some (.struct fs) => if P.stoodInHeld t || P.eqGuardType P.depth t then none else fs.toList.foldlM (fun (o : List Bool) (f : Field) => if f.offset = o.length ∧ f.name ≠ "_" then match tyEq P d f.type, tySize P f.type with
      | some n, some m => if n.length = m then some (o ++ n) else none
      | _, _ => none else none) []
    | _ => none
def tyEqA (P : Program) (t : TypeId) : Option (List Bool) := match tyAgg P t with | some true => tyEq P 8 t | _ => none
/-- The same plain zero value? -/
def sameZ : Value → Value → Bool
  | .int k a, .int k' b => decide (k = k') && decide (a = b)
  | .bool a, .bool b => a == b
  | .slice none 0 0, .slice none 0 0 => true
  | .pointer none, .pointer none => true
  | .string a, .string b => decide (a.data.size = 0) && decide (b.data.size = 0)
  | _, _ => false
def sameZs : List Value → List Value → Bool
  | [], [] => true
  | a :: l, b :: m => sameZ a b && sameZs l m
  | _, _ => false
/-- A great array: how long, its elements' size, their zero. -/
def tyArr (P : Program) (T : TypeId) : Option (Nat × Nat × List Value) :=
  match P.underlying T with
  | some (.array n e) => match tySize P e, tyZero P e, tyZero P T with
    | some sz, some zs, some z => if (8 < n ∨ n = 7) ∧ sz ≠ 0 ∧ zs.length = sz ∧ zs.all (·.oneCell') = true ∧ sameZs z (repeatL zs n) = true then some (n, sz, zs) else none
    | _, _, _ => none
  | _ => none
/-- An array of bools that can be compared: how long. -/
def tyEqArr (P : Program) (t : TypeId) : Option Nat :=
  match P.underlying t with
  | some (.array n e) => match P.underlying e, tySize P e with
    | some .bool, some 1 => if P.eqGuardType P.depth t then none else some n
    | _, _ => none
  | _ => none
def isB (x : List SV) : Prop := ∃ b, x = [.v (.bool b)]
def toB : List SV → Bool
  | [.v (.bool b)] => b
  | _ => false
/-- Are these cells the same? -/
def eqCells : List Bool → List SV → List SV → Option Bool
  | [], [], [] => some true
  | true :: ks, .v (.int k a) :: l, .v (.int k' b) :: m => if k = k' then (eqCells ks l m).map fun r => decide (a = b) && r else none
  | false :: ks, .v (.bool a) :: l, .v (.bool b) :: m => (eqCells ks l m).map fun r => (a == b) && r
  | _, _, _ => none

/- one operation -/
def rOf (x : Option SV) (H : Heap) (nx : Nat) : R1 := match x with | some s => .ok s H nx | none => .fail "operand"
def rNew (nx : Nat) (b : Blk) (H : Heap) (s : SV) : R1 := .ok s ((nx, b) :: H) (nx + 1)

def sPick : Option SV → Option SV → Option SV → Heap → Nat → R1
  | some (.v (.bool true)), a, _, H, nx => rOf a H nx
  | some (.v (.bool false)), _, b, H, nx => rOf b H nx
  | _, _, _, _, _ => .fail "pick"

def sAlloc0 (z : Option (List Value)) (T : TypeId) (H : Heap) (nx : Nat) : R1 :=
  match z with
  | some cs => rNew nx (.own (svs cs) T) H (.ptr nx 0 0 0)
  | none => .fail "alloc"
/-- A new variable: a great array row by row. -/
def sAlloc (a : Option (Nat × Nat × List Value)) (z : Option (List Value)) (T : TypeId) (H : Heap) (nx : Nat) : R1 :=
  match a with
  | some (n, sz, zs) => rNew nx (.row sz n T (List.replicate n (svs zs))) H (.ptr nx 0 0 0)
  | none => sAlloc0 z T H nx
/-- A great array in a variable of its own. -/
def sBoxA (a : Option (Nat × Nat × List Value)) (T : TypeId) (H : Heap) (nx : Nat) : SV → R1
  | .arr s xs => (match a with
    | some (n, sz, _) => if s = sz then .need (xs.length = n) (rNew nx (.row s n T xs) H (.ptr nx 0 0 0)) else .fail "box an array"
    | none => .fail "box an array")
  | _ => .fail "box an array"
def sBox (a : Option (Nat × Nat × List Value)) (x : Option SV) (T : TypeId) (H : Heap) (nx : Nat) : R1 :=
  match x with
  | some s => if isArr s = true then sBoxA a T H nx s else rNew nx (.own (cellsS s) T) H (.ptr nx 0 0 0)
  | none => .fail "box"

def sLoadIn (agg : Bool) (size sz e r : Nat) (H : Heap) (nx : Nat) : Option Blk → R1
  | some (.own cs _) => match cut cs (e * sz + r) size with
    | some l => rOf (aggOf agg l) H nx
    | none => .fail "load no such cells"
  | some (.row s _ _ xs) => if s = sz then .need (e < xs.length) (match cut (xs.getD e []) r size with
    | some l => rOf (aggOf agg l) H nx
    | none => .fail "load no such cells in the element") else (if sz = 0 ∧ e = 0 ∧ r = 0 ∧ agg = true then .need (size = xs.length * s) (.ok (.arr s xs) H nx) else .fail "load size")
  | _ => .fail "load no such block"
def sLoad (agg : Option Bool) (size : Option Nat) (H : Heap) (nx : Nat) : Option SV → R1
  | some (.ptr id sz e r) => match agg, size with
    | some b, some n => sLoadIn b n sz e r H nx (H.get id)
    | _, _ => .fail "load type"
  | some (.rp x r) => match agg, size with
    | some b, some n => (match cut x r n with
      | some l => rOf (aggOf b l) H nx
      | none => .fail "load no such cells")
    | _, _ => .fail "load type"
  | _ => .fail "load no address"

def undefS : SV := .v undef
def sStoreIn (cs : List SV) (id sz e r : Nat) (H : Heap) (nx : Nat) : Option Blk → R1
  | some (.own old T) => match paste old (e * sz + r) cs with
    | some l => .need (ones cs) (.ok undefS (H.set id (.own l T)) nx)
    | none => .fail "store no such cells"
  | some (.row s cap T xs) => if s = sz then (if idFrees cs = true then (match paste (xs.getD e []) r cs with
      | some l => .need (e < xs.length ∧ ones cs) (.ok undefS (H.set id (.row s cap T (xs.set e l))) nx)
      | none => .fail "store no such cells in the element") else .fail "store a number of a block in a row") else .fail "store size"
  | _ => .fail "store no such block"
/-- A whole array is stored. -/
def sStoreArr (n s : Nat) (ys : List (List SV)) (id : Nat) (H : Heap) (nx : Nat) : Option Blk → R1
  | some (.row s' cap T xs) => if s = s' then .need (ys.length = cap ∧ n = cap * s ∧ cap ≠ 0) (.ok undefS (H.set id (.row s cap T ys)) nx) else .fail "store size"
  | _ => .fail "store an array to where"
def sStore (size : Option Nat) (H : Heap) (nx : Nat) : Option SV → Option SV → R1
  | some (.ptr id sz e r), some x => match size with
    | some n => (match x with
      | .arr s ys => if sz = 0 ∧ e = 0 ∧ r = 0 then sStoreArr n s ys id H nx (H.get id) else .fail "store an array inside"
      | x => if (cellsS x).length = n then sStoreIn (cellsS x) id sz e r H nx (H.get id) else .fail "store size")
    | none => .fail "store type"
  | _, _ => .fail "store no address"

def sNil (H : Heap) (nx : Nat) : Option SV → R1
  | some (.ptr id sz e r) => .ok (.ptr id sz e r) H nx
  | some (.rp x r) => .ok (.rp x r) H nx
  | some (.fn (.func f) a b) => .ok (.fn (.func f) a b) H nx
  | some (.v (.func (.func f) a b)) => .ok (.v (.func (.func f) a b)) H nx
  | some (.v (.pointer (some a))) => .ok (.v (.pointer (some a))) H nx
  | _ => .fail "nilCheck"

/-- How far is shifted. -/
def shAmt (y : Int) (b : Nat) : Nat := if y.toNat ≤ b then y.toNat else b
def ibits (op : BinOp) (k : IntKind) (x y : Int) : Int :=
  let a := BitVec.ofInt k.bits x
  let b := BitVec.ofInt k.bits y
  match op with
  | .and => k.wrap (a &&& b).toNat
  | .or => k.wrap (a ||| b).toNat
  | .xor => k.wrap (a ^^^ b).toNat
  | _ => k.wrap (a &&& ~~~b).toNat

def sInt (op : BinOp) (k k' : IntKind) (a b : Int) (H : Heap) (nx : Nat) : R1 :=
  match op with
  | .shl => .need (0 ≤ b) (.ok (.v (.int k (k.wrap (a * 2 ^ shAmt b k.bits)))) H nx)
  | .shr => .need (0 ≤ b) (.ok (.v (.int k (a.fdiv (2 ^ shAmt b k.bits)))) H nx)
  | op => if k = k' then match op with
    | .add => .ok (.v (.int k (k.wrap (a + b)))) H nx
    | .sub => .ok (.v (.int k (k.wrap (a - b)))) H nx
    | .mul => .ok (.v (.int k (k.wrap (a * b)))) H nx
    | .quo => .need (b ≠ 0) (.ok (.v (.int k (k.wrap (a.tdiv b)))) H nx)
    | .rem => .need (b ≠ 0) (.ok (.v (.int k (a.tmod b))) H nx)
    | .eql => .ok (.v (.bool (decide (a = b)))) H nx
    | .neq => .ok (.v (.bool (!decide (a = b)))) H nx
    | .lss => .ok (.v (.bool (decide (a < b)))) H nx
    | .leq => .ok (.v (.bool (decide (a ≤ b)))) H nx
    | .gtr => .ok (.v (.bool (decide (b < a)))) H nx
    | .geq => .ok (.v (.bool (decide (b ≤ a)))) H nx
    | .and => .ok (.v (.int k (ibits .and k a b))) H nx
    | .or => .ok (.v (.int k (ibits .or k a b))) H nx
    | .xor => .ok (.v (.int k (ibits .xor k a b))) H nx
    | .andNot => .ok (.v (.int k (ibits .andNot k a b))) H nx
    | _ => .fail "binOp" else .fail "binOp kinds"

/-- Are two values the same (a pointer, a slice, a map, a function against nil; bools)? -/
def sEq (d : Option TypeDesc) : SV → SV → Option (Prop × Bool)
  | .v (.bool a), .v (.bool b) => match d with | some .bool => some (True, a == b) | _ => none
  | .ptr .., .v (.pointer none) => match d with | some (.pointer _) => some (True, false) | _ => none
  | .rp .., .v (.pointer none) => match d with | some (.pointer _) => some (True, false) | _ => none
  | .v (.pointer none), .ptr .. => match d with | some (.pointer _) => some (True, false) | _ => none
  | .v (.pointer none), .v (.pointer none) => match d with | some (.pointer _) => some (True, true) | _ => none
  | .sl _ _ _ _ cap, .v (.slice none 0 0) => match d with | some (.slice _) => some (0 < cap, false) | _ => none
  | .rd _ xs, .v (.slice none 0 0) => match d with | some (.slice _) => some (xs.length ≠ 0, false) | _ => none
  | .v (.slice none _ _), .v (.slice none 0 0) => match d with | some (.slice _) => some (True, true) | _ => none
  | .v (.slice (some _) _ _), .v (.slice none 0 0) => match d with | some (.slice _) => some (True, false) | _ => none
  | .fn .., .v .nilFunc => match d with | some (.func ..) => some (True, false) | _ => none
  | .v (.func (.func _) _ _), .v .nilFunc => match d with | some (.func ..) => some (True, false) | _ => none
  | .v .nilFunc, .v .nilFunc => match d with | some (.func ..) => some (True, true) | _ => none
  | .mp _, .v (.map none) => match d with | some (.map ..) => some (True, false) | _ => none
  | _, _ => none
def sEqR (neg : Bool) (H : Heap) (nx : Nat) : Option (Prop × Bool) → R1
  | some (p, b) => .need p (.ok (.v (.bool (if neg then !b else b))) H nx)
  | none => .fail ""
/-- The cells of a struct. -/
def aggS : SV → Option (List SV)
  | .agg cs => some cs
  | .v (.agg cs) => some (svs cs.toList)
  | _ => none
def sEqAgg (neg : Bool) (n : Option (List Bool)) (H : Heap) (nx : Nat) : Option (List SV) → Option (List SV) → R1
  | some xs, some ys => match n with
    | some ks => (match eqCells ks xs ys with
      | some b => .ok (.v (.bool (if neg then !b else b))) H nx
      | none => .fail " of structs")
    | none => .fail " of structs"
  | _, _ => .fail ""
/-- Are two arrays of bools the same? -/
def sEqArr (neg : Bool) (q : Option Nat) (xs ys : List (List SV)) (H : Heap) (nx : Nat) : R1 :=
  match q with
  | some n => .need (xs.length = n ∧ ys.length = n ∧ (∀ x ∈ xs, isB x) ∧ ∀ y ∈ ys, isB y) (.ok (.v (.bool (if neg then !decide (xs.map toB = ys.map toB) else decide (xs.map toB = ys.map toB)))) H nx)
  | none => .fail " of arrays"
def sBin (n : Option (List Bool)) (d : Option TypeDesc) (q : Option Nat) (op : BinOp) (H : Heap) (nx : Nat) : Option SV → Option SV → R1
  | some (.v (.int k a)), some (.v (.int k' b)) => sInt op k k' a b H nx
  | some (.v (.string a)), some (.v (.string b)) => match op with
    | .eql => .ok (.v (.bool (a.toList == b.toList))) H nx
    | .neq => .ok (.v (.bool !(a.toList == b.toList))) H nx
    | _ => .fail "binOp"
  | some (.agg xs), some y => match op with
    | .eql => sEqAgg false n H nx (some xs) (aggS y)
    | .neq => sEqAgg true n H nx (some xs) (aggS y)
    | _ => .fail "binOp"
  | some (.v (.agg xs)), some y => match op with
    | .eql => sEqAgg false n H nx (some (svs xs.toList)) (aggS y)
    | .neq => sEqAgg true n H nx (some (svs xs.toList)) (aggS y)
    | _ => .fail "binOp"
  | some (.arr _ xs), some (.arr _ ys) => match op with
    | .eql => sEqArr false q xs ys H nx
    | .neq => sEqArr true q xs ys H nx
    | _ => .fail "binOp"
  | some x, some y => match op with
    | .eql => sEqR false H nx (sEq d x y)
    | .neq => sEqR true H nx (sEq d x y)
    | _ => .fail "binOp"
  | _, _ => .fail "binOp operands"
def sUn (op : UnOp) (H : Heap) (nx : Nat) : Option SV → R1
  | some (.v (.bool b)) => match op with | .not => .ok (.v (.bool !b)) H nx | _ => .fail "unOp"
  | some (.v (.int k n)) => match op with
    | .neg => .ok (.v (.int k (k.wrap (0 - n)))) H nx
    | .xor => .ok (.v (.int k (ibits .xor k (if k.signed then -1 else k.max) n))) H nx
    | _ => .fail "unOp"
  | _ => .fail "unOp"
/-- The numbers of a row of bytes; a text of bytes. -/
def rowInts : List (List SV) → Option (List Int)
  | [] => some []
  | [.v (.int .u8 n)] :: xs => match rowInts xs with | some l => some (n :: l) | none => none
  | _ => none
def strOf (l : List Int) : ByteArray := l.foldl (fun s n => s.push (UInt8.ofNat n.toNat)) ByteArray.empty
def isU8 (P : Program) (t : TypeId) : Bool := match P.underlying t with
  | some (.slice e) => (match P.underlying e with | some (.int .u8) => true | _ => false)
  | _ => false
def sConv (u8 : Bool) (d : Option TypeDesc) (H : Heap) (nx : Nat) : Option SV → R1
  | some (.v (.int _ n)) => match d with | some (.int k) => .ok (.v (.int k (k.wrap n))) H nx | _ => .fail "convert"
  | some (.rd sz xs) => match d, u8, rowInts xs with | some .string, true, some l => if sz = 1 then .ok (.v (.string (strOf l))) H nx else .fail "convert" | _, _, _ => .fail "convert"
  | _ => .fail "convert"
def sMakeFunc (fn : Fn) (H : Heap) (nx : Nat) : Option (List SV) → Option (List SV) → R1
  | some a, some b => .ok (.fn fn a b) H nx
  | _, _ => .fail "makeFunc"
def sFieldAddr (f : Option (Nat × Nat × Bool)) (H : Heap) (nx : Nat) : Option SV → R1
  | some (.ptr id sz e r) => match f with
    | some (o, n, _) => if n = 0 then .fail "fieldAddr of no size" else .ok (.ptr id sz e (r + o)) H nx
    | none => .fail "fieldAddr"
  | some (.rp x r) => match f with
    | some (o, n, _) => if n = 0 then .fail "fieldAddr of no size" else .ok (.rp x (r + o)) H nx
    | none => .fail "fieldAddr"
  | _ => .fail "fieldAddr no address"
def sField (f : Option (Nat × Nat × Bool)) (H : Heap) (nx : Nat) : Option SV → R1
  | some (.agg cs) => match f with
    | some (o, n, b) => match cut cs o n with
      | some l => rOf (aggOf b l) H nx
      | none => .fail "field cells"
    | none => .fail "field"
  | some (.v (.agg cs)) => match f with
    | some (o, n, b) => match cut (svs cs.toList) o n with
      | some l => rOf (aggOf b l) H nx
      | none => .fail "field cells"
    | none => .fail "field"
  | _ => .fail "field no struct"
/-- The type's element, the length of an array. -/
def sIndexAddr (d : Option TypeDesc) (es : Option Nat) (H : Heap) (nx : Nat) : Option SV → Option SV → R1
  | some (.sl id sz off len cap), some (.v (.int _ i)) => match d, es with
    | some (.slice _), some n => if n = sz then .need (0 ≤ i ∧ i < len ∧ len ≤ cap) (.ok (.ptr id sz (off + i.toNat) 0) H nx) else .fail "indexAddr size"
    | _, _ => .fail "indexAddr type"
  | some (.ptr id _ 0 0), some (.v (.int _ i)) => match d, es with
    | some (.array len _), some n => .need (0 ≤ i ∧ i < len) (.ok (.ptr id n i.toNat 0) H nx)
    | _, _ => .fail "indexAddr type"
  | some (.rd sz xs), some (.v (.int _ i)) => match d, es with
    | some (.slice _), some n => if n = sz then .need (0 ≤ i ∧ i < xs.length) (.ok (.rp (xs.getD i.toNat []) 0) H nx) else .fail "indexAddr size"
    | _, _ => .fail "indexAddr type"
  | some (.rp x r), some (.v (.int _ i)) => match d, es with
    | some (.array len _), some n => if n = 1 then .need (0 ≤ i ∧ i < len ∧ r + len ≤ x.length) (.ok (.rp [x.getD (r + i.toNat) undefS] 0) H nx) else .fail "indexAddr size"
    | _, _ => .fail "indexAddr type"
  | _, _ => .fail "indexAddr"
def sIndex (d : Option TypeDesc) (es : Option Nat) (ea : Option Bool) (H : Heap) (nx : Nat) : Option SV → Option SV → R1
  | some (.agg cs), some (.v (.int _ i)) => match d, es, ea with
    | some (.array len _), some n, some b => match cut cs (i.toNat * n) n with
      | some l => .need (0 ≤ i ∧ i < len) (rOf (aggOf b l) H nx)
      | none => .fail "index cells"
    | _, _, _ => .fail "index type"
  | some (.arr s xs), some (.v (.int _ i)) => match d, es, ea with
    | some (.array len _), some n, some b => if n = s then .need (0 ≤ i ∧ i < len ∧ len = xs.length) (rOf (aggOf b (xs.getD i.toNat [])) H nx) else .fail "index size"
    | _, _, _ => .fail "index type"
  | some (.v (.string s)), some (.v (.int _ i)) => match d with
    | some .string => .need (0 ≤ i ∧ i < s.size) (.ok (.v (.int .u8 (s.data.toList.getD i.toNat 0).toNat)) H nx)
    | _ => .fail "index type"
  | _, _ => .fail "index"
def sExtract (i : Nat) (H : Heap) (nx : Nat) : Option SV → R1
  | some (.tup vs) => rOf vs[i]? H nx
  | some (.v (.tuple vs)) => rOf (vs[i]?.map .v) H nx
  | _ => .fail "extract"
def sLen (d : Option TypeDesc) (H : Heap) (nx : Nat) : Option SV → R1
  | some (.sl _ _ _ len _) => match d with | some (.slice _) => .ok (.v (.int .i64 len)) H nx | _ => .fail "len"
  | some (.rd _ xs) => match d with | some (.slice _) => .ok (.v (.int .i64 xs.length)) H nx | _ => .fail "len"
  | some (.v (.slice _ len _)) => match d with | some (.slice _) => .ok (.v (.int .i64 len)) H nx | _ => .fail "len"
  | some (.v (.string s)) => match d with | some .string => .ok (.v (.int .i64 s.size)) H nx | _ => .fail "len"
  | _ => .fail "len"
def sCap (d : Option TypeDesc) (H : Heap) (nx : Nat) : Option SV → R1
  | some (.sl _ _ _ _ cap) => match d with | some (.slice _) => .ok (.v (.int .i64 cap)) H nx | _ => .fail "cap"
  | some (.v (.slice _ _ cap)) => match d with | some (.slice _) => .ok (.v (.int .i64 cap)) H nx | _ => .fail "cap"
  | _ => .fail "cap"
/-- x[lo:hi] or x[lo:hi:mx] of a slice. -/
def optI : Option (Option SV) → Option (Option Int)
  | none => some none
  | some (some (.v (.int _ i))) => some (some i)
  | _ => none
/-- So much of a list. -/
def cutL {α : Type} : Option Int → Option Int → List α → List α
  | none, none, l => l
  | some lo, none, l => l.drop lo.toNat
  | none, some hi, l => l.take hi.toNat
  | some lo, some hi, l => (l.take hi.toNat).drop lo.toNat
def sSlice (d : Option TypeDesc) (es : Option Nat) (H : Heap) (nx : Nat) : Option SV → Option (Option Int) → Option (Option Int) → Option (Option Int) → R1
  | some (.sl id sz off len cap), some lo, some hi, some mx => match d, es with
    | some (.slice _), some n => if n = sz then
        .need (0 ≤ lo.getD 0 ∧ lo.getD 0 ≤ hi.getD len ∧ hi.getD len ≤ mx.getD cap ∧ mx.getD cap ≤ cap ∧ (mx.isSome → hi.isSome))
          (.ok (.sl id sz (off + (lo.getD 0).toNat) ((hi.getD len).toNat - (lo.getD 0).toNat) ((mx.getD cap).toNat - (lo.getD 0).toNat)) H nx) else .fail "slice size"
    | _, _ => .fail "slice type"
  | some (.rd sz xs), some lo, some hi, some none => match d, es with
    | some (.slice _), some n => if n = sz then
        .need (0 ≤ lo.getD 0 ∧ lo.getD 0 ≤ hi.getD xs.length ∧ hi.getD xs.length ≤ xs.length) (.ok (.rd sz (cutL lo hi xs)) H nx) else .fail "slice size"
    | _, _ => .fail "slice type"
  | some (.v (.slice none 0 0)), some lo, some hi, some mx => match d, es with
    | some (.slice _), some _ => .need (lo.getD 0 = 0 ∧ hi.getD 0 = 0 ∧ mx.getD 0 = 0 ∧ (mx.isSome → hi.isSome)) (.ok (.v (.slice none 0 0)) H nx)
    | _, _ => .fail "slice type"
  | _, _, _, _ => .fail "slice"

def elemT : Option TypeDesc → Option TypeId
  | some (.slice e) => some e
  | some (.array _ e) => some e
  | _ => none
def sliceT : Option TypeDesc → Option TypeId
  | some (.slice e) => some e
  | _ => none
def obind {α : Type} (f : TypeId → Option α) : Option TypeId → Option α
  | some t => f t
  | none => none

/-- The cells of a struct or an array that is built of parts. -/
def fillS (places : List (Nat × Nat)) : List (Nat × SV) → List SV → Option (List SV)
  | [], cells => some cells
  | (i, x) :: rest, cells => match places[i]? with
    | some (o, n) => if isArr x = false ∧ (cellsS x).length = n then match paste cells o (cellsS x) with
      | some c => fillS places rest c
      | none => none else none
    | none => none
def evps (gl : Gl) (env : Env) : List (Nat × Operand) → Option (List (Nat × SV))
  | [] => some []
  | (i, x) :: xs => match ev gl env x, evps gl env xs with
    | some a, some as => some ((i, a) :: as)
    | _, _ => none
/-- A great array that is built. -/
def sBuildA (n sz : Nat) (zs : List Value) (places : Option (List (Nat × Nat))) (z : Option (List Value)) (H : Heap) (nx : Nat) : Option (List (Nat × SV)) → R1
  | some [] => .ok (.arr sz (List.replicate n (svs zs))) H nx
  | some ps => match places, z with
    | some pl, some cs => (match fillS pl ps (svs cs) with
      | some c => (match idFrees c with
        | true => .need (ones c ∧ c.length = n * sz) (.ok (.arr sz (chunk sz n c)) H nx)
        | false => .fail "build an array of numbers of blocks")
      | none => .fail "build parts")
    | _, _ => .fail "build type"
  | none => .fail "build operands"
def sBuild0 (places : Option (List (Nat × Nat))) (z : Option (List Value)) (H : Heap) (nx : Nat) : Option (List (Nat × SV)) → R1
  | some ps => match places, z with
    | some pl, some cs => match fillS pl ps (svs cs) with
      | some c => .ok (.agg c) H nx
      | none => .fail "build parts"
    | _, _ => .fail "build type"
  | none => .fail "build operands"
def sBuild (a : Option (Nat × Nat × List Value)) (places : Option (List (Nat × Nat))) (z : Option (List Value)) (H : Heap) (nx : Nat) (ps : Option (List (Nat × SV))) : R1 :=
  match a with
  | some (n, sz, zs) => sBuildA n sz zs places z H nx ps
  | none => sBuild0 places z H nx ps
/-- A slice literal. -/
def sBuildSlice (T : Option TypeId) (es : Option Nat) (z : Option (List Value)) (len : Nat) (H : Heap) (nx : Nat) : Option (List (Nat × SV)) → R1
  | some ps => match T, es, z with
    | some e, some s, some cs => if cs.length = s then match fillS ((List.range len).map fun i => (i * s, s)) ps (svs (repeatL cs len)) with
      | some c => .need (len * s ≤ 16777216) (match idFrees c with
        | true => .need (ones c ∧ c.length = len * s) (rNew nx (.row s len e (chunk s len c)) H (.sl nx s 0 len len))
        | false => rNew nx (.own c e) H (.sl nx s 0 len len))
      | none => .fail "buildSlice parts" else .fail "buildSlice zero"
    | _, _, _ => .fail "buildSlice type"
  | none => .fail "buildSlice operands"

/-- Where the elements that are appended or copied come from: what is owed, what they are. -/
def srcS (sz : Nat) (H : Heap) : Option SV → Option (Prop × List (List SV))
  | some (.v (.slice _ 0 _)) => some (True, [])
  | some (.rd s xs) => if s = sz then some (True, xs) else none
  | some (.sl id s off len cap) => if s = sz then (match H.get id with
    | some (.row s' c _ xs) => if s' = sz then some (off + len ≤ xs.length ∧ len ≤ cap ∧ (0 < cap → c ≠ 0), (xs.drop off).take len) else none
    | _ => none) else none
  | _ => none
/-- so many zero values -/
def zerosS (bytes : Nat) (z : List Value) : Option SV → Option (Prop × List (List SV))
  | some (.v (.int _ i)) => some (0 ≤ i ∧ i * bytes ≤ 140737488355328 ∧ i ≤ 9223372036854775807 ∧ z.all (·.oneCell') = true, List.replicate i.toNat (svs z))
  | _ => none
def appArgS (ud : Option TypeDesc) (bytes : Nat) (z : List Value) (sz : Nat) (H : Heap) (x : Option SV) : Option (Prop × List (List SV)) :=
  match ud with
  | some (.int _) => zerosS bytes z x
  | some (.slice _) => srcS sz H x
  | _ => none
def appNew (e sz bytes : Nat) (p : Prop) (ys : List (List SV)) (H : Heap) (nx : Nat) : R1 :=
  .need (p ∧ ys.length * bytes ≤ 140737488355328 ∧ ys.length ≤ 9223372036854775807) (.all fun c => .ok (.sl nx sz 0 ys.length (ys.length + c)) ((nx, .row sz (ys.length + c) e ys) :: H) (nx + 1))
def sAppendTo (e sz bytes : Nat) (H : Heap) (nx : Nat) (p : Prop) (ys : List (List SV)) : Option SV → R1
  | some (.v (.slice none 0 0)) => appNew e sz bytes p ys H nx
  | some (.sl id s 0 len cap) => if s = sz then (match H.get id with
    | some (.row s' c T xs) => if s' = sz then (if T = e then
        .need (p ∧ len ≤ xs.length ∧ cap = c ∧ (len + ys.length) * bytes ≤ 140737488355328 ∧ len + ys.length ≤ 9223372036854775807)
          (.all fun d => .ok (.sl nx sz 0 (len + ys.length) (len + ys.length + d)) ((nx, .row sz (len + ys.length + d) e (xs.take len ++ ys)) :: H.drop id) (nx + 1))
        else .fail "append type") else .fail "append size"
    | _ => .fail "append to what") else .fail "append size"
  | _ => .fail "append to what"
def sAppend (e : Option TypeId) (size bytes : Option Nat) (z : Option (List Value)) (ud : Option TypeDesc) (H : Heap) (nx : Nat) (s x : Option SV) : R1 :=
  match e, size, bytes, z with
  | some e, some sz, some by', some zs => if sz = 0 then .fail "append elements of no size" else if zs.length = sz then match (appArgS ud by' zs sz H x) with
    | some (p, ys) => sAppendTo e sz by' H nx p ys s
    | none => .fail "append what" else .fail "append zero"
  | _, _, _, _ => .fail "append type"
/-- As sAppendTo, and it is said that there is room for no less than before. -/
def sAppendToC (e sz bytes : Nat) (H : Heap) (nx : Nat) (p : Prop) (ys : List (List SV)) : Option SV → R1
  | some (.sl id s 0 len cap) => if s = sz then (match H.get id with
    | some (.row s' c T xs) => if s' = sz then (if T = e then
        .need (p ∧ len ≤ xs.length ∧ cap = c ∧ (len + ys.length) * bytes ≤ 140737488355328 ∧ len + ys.length ≤ 9223372036854775807)
          (.all fun d => .ok (.sl nx sz 0 (len + ys.length) (max cap (len + ys.length + d))) ((nx, .row sz (max cap (len + ys.length + d)) e (xs.take len ++ ys)) :: H.drop id) (nx + 1))
        else .fail "append type") else .fail "append size"
    | _ => .fail "append to what") else .fail "append size"
  | _ => .fail "append to what"
def sAppendC (e : Option TypeId) (size bytes : Option Nat) (z : Option (List Value)) (ud : Option TypeDesc) (H : Heap) (nx : Nat) (s x : Option SV) : R1 :=
  match e, size, bytes, z with
  | some e, some sz, some by', some zs => if sz = 0 then .fail "append elements of no size" else if zs.length = sz then match (appArgS ud by' zs sz H x) with
    | some (p, ys) => sAppendToC e sz by' H nx p ys s
    | none => .fail "append what" else .fail "append zero"
  | _, _, _, _ => .fail "append type"
/-- Cells behind the known ones are cleared. -/
def sClear (e : Option TypeId) (size : Option Nat) (z : Option (List Value)) (H : Heap) (nx : Nat) : Option SV → R1
  | some (.sl id s off len cap) => match e, size, z with
    | some _, some sz, some zs => if s = sz then (match H.get id with
      | some (.row s' c T xs) => if s' = sz then .need (xs.length ≤ off ∧ off + len ≤ c ∧ len ≤ cap ∧ zs.length = sz ∧ zs.all (·.oneCell') = true) (.ok undefS (H.set id (.row s' c T xs)) nx) else .fail "clear size"
      | _ => .fail "clear what") else .fail "clear size"
    | _, _, _ => .fail "clear type"
  | _ => .fail "clear what"
def sCopy (e : Option TypeId) (size : Option Nat) (H : Heap) (nx : Nat) (s x : Option SV) : R1 :=
  match e, size with
  | some _, some sz => if sz = 0 then .fail "copy elements of no size" else match srcS sz H x with
    | some (p, ys) => match s with
      | some (.sl id s' off len cap) => if s' = sz then (match H.get id with
        | some (.row s'' c T xs) => if s'' = sz then
            .need (p ∧ off + len ≤ xs.length ∧ len ≤ cap ∧ (0 < cap → c ≠ 0)) (.ok (.v (.int .i64 (min ys.length len : Nat))) (H.set id (.row sz c T (xs.take off ++ (ys.take len ++ xs.drop (off + min ys.length len))))) nx) else .fail "copy size"
        | _ => .fail "copy to what") else .fail "copy size"
      | _ => .fail "copy to what"
    | none => .fail "copy what"
  | _, _ => .fail "copy type"
def sMakeSlice (e : Option TypeId) (size bytes : Option Nat) (z : Option (List Value)) (H : Heap) (nx : Nat) : Option SV → Option SV → R1
  | some (.v (.int _ l)), some (.v (.int _ c)) => match e, size, bytes, z with
    | some e, some sz, some by', some zs => if zs.length = sz then
        .need (0 ≤ l ∧ l ≤ c ∧ c ≤ 9223372036854775807 ∧ by' * c ≤ 281474976710656 ∧ zs.all (·.oneCell') = true) (rNew nx (.row sz c.toNat e (List.replicate l.toNat (svs zs))) H (.sl nx sz 0 l.toNat c.toNat)) else .fail "make zero"
    | _, _, _, _ => .fail "make type"
  | _, _ => .fail "make"
def sMinMax (mx : Bool) (H : Heap) (nx : Nat) : List (Option SV) → R1
  | [some (.v (.int k a)), some (.v (.int _ b))] => .ok (.v (.int k (if mx then max a b else min a b))) H nx
  | [some (.v (.int k a)), some (.v (.int _ b)), some (.v (.int _ c))] => .ok (.v (.int k (if mx then max (max a b) c else min (min a b) c))) H nx
  | _ => .fail "min max"
/-- The cells of a map's key, as numbers. -/
def intCells : List SV → Option (List IntKind × List Int)
  | [] => some ([], [])
  | .v (.int k n) :: l => match intCells l with | some (ks, ns) => some (k :: ks, n :: ns) | none => none
  | _ => none
def keyS : SV → Option (Bool × List IntKind × List Int)
  | .v (.int k n) => some (false, [k], [n])
  | .agg cs => match intCells cs with | some (ks, ns) => some (true, ks, ns) | none => none
  | _ => none
def idFree' : SV → Bool
  | .agg cs => idFrees cs
  | x => idFree x
/-- A map's type: are its keys structs, of which kinds of numbers; are its values structs, their zero. -/
def keyKinds (P : Program) : Nat → List Field → Option (List IntKind)
  | _, [] => some []
  | i, f :: l => if f.offset = i ∧ f.name ≠ "_" then match P.underlying f.type, tySize P f.type, keyKinds P (i + 1) l with
    | some (.int k), some 1, some ks => some (k :: ks)
    | _, _, _ => none else none
def tyKey (P : Program) (t : TypeId) : Option (Bool × List IntKind) :=
  match P.underlying t with
  | some (.int k) => some (false, [k])
  | some (.struct fs) => match keyKinds P 0 fs.toList with
    | some l => if tyEq P 8 t = some (l.map fun _ => true) then some (true, l) else none
    | none => none
  | _ => none
def tyMap (P : Program) (t : TypeId) : Option (Bool × List IntKind × SV) :=
  match P.underlying t with
  | some (.map k e) => match tyKey P k, tyZeroV P e with
    | some (ag, ks), some z => match z with
      | .agg cs => some (ag, ks, .agg (svs cs.toList))
      | z => some (ag, ks, .v z)
    | _, _ => none
  | _ => none
def sMakeMap (t : Option (Bool × List IntKind × SV)) (H : Heap) (nx : Nat) : R1 :=
  match t with
  | some (ag, ks, _) => rNew nx (.map ag ks fun _ => none) H (.mp nx)
  | none => .fail "makeMap"
def sLookupIn (t : Option (Bool × List IntKind × SV)) (ok : Bool) (H : Heap) (nx : Nat) : Option Blk → Option (Bool × List IntKind × List Int) → R1
  | some (.map ag ks f), some (ag', ks', ns) => match t with
    | some (ag'', ks'', z) => if ag' = ag'' ∧ ks' = ks'' ∧ ag = ag' ∧ ks = ks' then .ok (if ok then .tup [(f ns).getD z, .v (.bool (f ns).isSome)] else (f ns).getD z) H nx else .fail "lookup key"
    | none => .fail "lookup type"
  | _, _ => .fail "lookup"
def sLookup (t : Option (Bool × List IntKind × SV)) (ok : Bool) (H : Heap) (nx : Nat) : Option SV → Option SV → R1
  | some (.mp id), some k => sLookupIn t ok H nx (H.get id) (keyS k)
  | _, _ => .fail "lookup operands"
def sMapUpIn (t : Option (Bool × List IntKind × SV)) (id : Nat) (v : SV) (H : Heap) (nx : Nat) : Option Blk → Option (Bool × List IntKind × List Int) → R1
  | some (.map ag ks f), some (ag', ks', ns) => match t with
    | some (ag'', ks'', _) => if ag' = ag'' ∧ ks' = ks'' ∧ ag = ag' ∧ ks = ks' ∧ idFree' v = true then .ok undefS (H.set id (.map ag ks fun q => if q = ns then some v else f q)) nx else .fail "mapUpdate key"
    | none => .fail "mapUpdate type"
  | _, _ => .fail "mapUpdate"
def sMapUp (t : Option (Bool × List IntKind × SV)) (H : Heap) (nx : Nat) : Option SV → Option SV → Option SV → R1
  | some (.mp id), some k, some v => sMapUpIn t id v H nx (H.get id) (keyS k)
  | _, _, _ => .fail "mapUpdate operands"
def sBuiltin (P : Program) (gl : Gl) (env : Env) (H : Heap) (nx : Nat) : Builtin → List Operand → List TypeId → R1
  | .len, [x], [t] => sLen (P.underlying t) H nx (ev gl env x)
  | .cap, [x], [t] => sCap (P.underlying t) H nx (ev gl env x)
  | .append, [s, x], [t, u] => sAppend (sliceT (P.underlying t)) (obind (tySize P) (sliceT (P.underlying t))) (obind (tyBytes P) (sliceT (P.underlying t))) (obind (tyZero P) (sliceT (P.underlying t))) (P.underlying u) H nx (ev gl env s) (ev gl env x)
  | .copy, [s, x], [t, _] => sCopy (sliceT (P.underlying t)) (obind (tySize P) (sliceT (P.underlying t))) H nx (ev gl env s) (ev gl env x)
  | .max, args, _ => sMinMax true H nx (args.map (ev gl env))
  | .min, args, _ => sMinMax false H nx (args.map (ev gl env))
  | .clear, [x], [t] => sClear (sliceT (P.underlying t)) (obind (tySize P) (sliceT (P.underlying t))) (obind (tyZero P) (sliceT (P.underlying t))) H nx (ev gl env x)
  | _, _, _ => .fail "builtin"
/-- An append of which it is said that there is room for no less than before. -/
def sBuiltinC (P : Program) (gl : Gl) (env : Env) (H : Heap) (nx : Nat) : Builtin → List Operand → List TypeId → R1
  | .append, [s, x], [t, u] => sAppendC (sliceT (P.underlying t)) (obind (tySize P) (sliceT (P.underlying t))) (obind (tyBytes P) (sliceT (P.underlying t))) (obind (tyZero P) (sliceT (P.underlying t))) (P.underlying u) H nx (ev gl env s) (ev gl env x)
  | _, _, _ => .fail "builtin"
/-- A string's iterator. -/
def sRange (u : Option TypeDesc) (H : Heap) (nx : Nat) : Option SV → R1
  | some (.v (.string s)) => match u with
    | some .string => rNew nx (.obj (.stringIter s 0)) H (.ptr nx 0 0 0)
    | _ => .fail "range over what"
  | _ => .fail "range over what"
def sNextIn (id : Nat) (H : Heap) (nx : Nat) : Option Blk → R1
  | some (.obj (.stringIter s pos)) => if pos < s.size then .ok (.tup [.v (.bool true), .v (.int .i64 pos), .v (.int .i32 (Utf8.decode s pos).1)]) (H.set id (.obj (.stringIter s (pos + (Utf8.decode s pos).2)))) nx else .ok (.tup [.v (.bool false)]) H nx
  | _ => .fail "next of what"
def sNext (H : Heap) (nx : Nat) : Option SV → R1
  | some (.ptr id 0 0 0) => sNextIn id H nx (H.get id)
  | _ => .fail "next of what"
def sopC (P : Program) (gl : Gl) (env : Env) (H : Heap) (nx : Nat) : Op → R1
  | .call { callee := .builtin b, args, argTypes } => sBuiltinC P gl env H nx b args.toList argTypes.toList
  | _ => .fail "operation"

def sop (P : Program) (gl : Gl) (env : Env) (H : Heap) (nx : Nat) : Op → R1
  | .move x => rOf (ev gl env x) H nx
  | .assign x => rOf (ev gl env x) H nx
  | .pick c a b => sPick (ev gl env c) (ev gl env a) (ev gl env b) H nx
  | .alloc T => sAlloc (tyArr P T) (tyZero P T) T H nx
  | .box T x => sBox (tyArr P T) (ev gl env x) T H nx
  | .build T ps => sBuild (tyArr P T) (tyPlaces P T) (tyZero P T) H nx (evps gl env ps.toList)
  | .buildSlice T len ps => sBuildSlice (sliceT (P.underlying T)) (obind (tySize P) (sliceT (P.underlying T))) (obind (tyZero P) (sliceT (P.underlying T))) len H nx (evps gl env ps.toList)
  | .load T a => sLoad (tyAgg P T) (tySize P T) H nx (ev gl env a)
  | .store T a x => sStore (tySize P T) H nx (ev gl env a) (ev gl env x)
  | .nilCheck x => sNil H nx (ev gl env x)
  | .binOp op t x y _ => sBin (tyEqA P t) (P.underlying t) (tyEqArr P t) op H nx (ev gl env x) (ev gl env y)
  | .unOp op _ x => sUn op H nx (ev gl env x)
  | .convert t d x => match P.underlying t with | some _ => sConv (isU8 P t) (P.underlying d) H nx (ev gl env x) | none => .fail "convert type"
  | .makeFunc fn f c => sMakeFunc fn H nx (evs gl env f.toList) (evs gl env c.toList)
  | .slice t x lo hi mx => sSlice (P.underlying t) (obind (tySize P) (elemT (P.underlying t))) H nx (ev gl env x) (optI (lo.map (ev gl env))) (optI (hi.map (ev gl env))) (optI (mx.map (ev gl env)))
  | .fieldAddr t x f => sFieldAddr (tyField P t f) H nx (ev gl env x)
  | .field t x f => sField (tyField P t f) H nx (ev gl env x)
  | .indexAddr t x i => sIndexAddr (P.underlying t) (obind (tySize P) (elemT (P.underlying t))) H nx (ev gl env x) (ev gl env i)
  | .index t x i => sIndex (P.underlying t) (obind (tySize P) (elemT (P.underlying t))) (obind (tyAgg P) (elemT (P.underlying t))) H nx (ev gl env x) (ev gl env i)
  | .extract x i => sExtract i H nx (ev gl env x)
  | .makeSlice t l c => sMakeSlice (sliceT (P.underlying t)) (obind (tySize P) (sliceT (P.underlying t))) (obind (tyBytes P) (sliceT (P.underlying t))) (obind (tyZero P) (sliceT (P.underlying t))) H nx (ev gl env l) (ev gl env c)
  | .makeMap t none => sMakeMap (tyMap P t) H nx
  | .lookup t m k ok => sLookup (tyMap P t) ok H nx (ev gl env m) (ev gl env k)
  | .mapUpdate t m k v => sMapUp (tyMap P t) H nx (ev gl env m) (ev gl env k) (ev gl env v)
  | .call { callee := .builtin b, args, argTypes } => sBuiltin P gl env H nx b args.toList argTypes.toList
  | .insert t m k v => sMapUp (tyMap P t) H nx (ev gl env m) (ev gl env k) (ev gl env v)
  | .range t x => sRange (P.underlying t) H nx (ev gl env x)
  | .next it true => sNext H nx (ev gl env it)
  | _ => .fail "operation"

/-- What was made new is written by nobody from now on. -/
def frzOk (H : Heap) (nx : Nat) : SV → R1
  | .sl i sz 0 len cap => match H with
    | (j, .row s c T xs) :: H' => if i = j ∧ s = sz ∧ cap = c then .need (len = xs.length ∧ (0 < cap → c ≠ 0) ∧ Heap.get H' i = none) (.ok (.rd sz xs) H' nx) else .fail "freeze what"
    | _ => .fail "freeze what"
  | _ => .fail "freeze what"
def frzR : R1 → R1
  | .ok x H nx => frzOk H nx x
  | .need p r => .need p (frzR r)
  | .all k => .all fun n => frzR (k n)
  | .fail s => .fail s

/- one step -/
def setO (dst : Option Nat) (x : SV) (env : Env) : Env := match dst with | some d => (d, x) :: env | none => env
def toSR (nt : Nat) (dst : Option Nat) (todo : List Item) (env : Env) (dfs : List Nat) : R1 → SR
  | .ok x H nx => match dst with
    | some d => if d < nt then .next ⟨todo, (d, x) :: env, H, nx, dfs⟩ else .fail "slot"
    | none => .next ⟨todo, env, H, nx, dfs⟩
  | .need p r => .need p (toSR nt dst todo env dfs r)
  | .all k => .all fun n => toSR nt dst todo env dfs (k n)
  | .fail s => .fail s
/-- An operation that shall be carried out. -/
def runOp (P : Program) (gl : Gl) (nt : Nat) (o : Oper) (todo : List Item) (env : Env) (H : Heap) (nx : Nat) (dfs : List Nat) : SR :=
  match o.op with
  | .call { callee := .value f, args, .. } => match ev gl env f, evs gl env args.toList with
    | some g, some as => match o.dst with
      | some d => if d < nt then .call g as (some d) ⟨todo, env, H, nx, dfs⟩ else .fail "slot"
      | none => .call g as none ⟨todo, env, H, nx, dfs⟩
    | _, _ => .fail "call operands"
  | op => toSR nt o.dst todo env dfs (sop P gl env H nx op)
def guardS (P : Program) (gl : Gl) (nt : Nat) (o : Oper) (want : Bool) (todo : List Item) (env : Env) (H : Heap) (nx : Nat) (dfs : List Nat) : Option Nat → SR
  | some d => match env.get d with
    | some (.v (.bool t)) => match o.dst with
      | some x => if x < nt ∧ d < nt then
          .guard t want (runOp P gl nt o todo ((d, .v (.bool want)) :: env) H nx dfs) ⟨todo, (x, undefS) :: (d, .v (.bool !want)) :: env, H, nx, dfs⟩ else .fail "slot"
      | none => if d < nt then .guard t want (runOp P gl nt o todo ((d, .v (.bool want)) :: env) H nx dfs) ⟨todo, (d, .v (.bool !want)) :: env, H, nx, dfs⟩ else .fail "slot"
    | some (.v (.tuple _)) => match o.dst with
      | some x => if x < nt then .next ⟨todo, (x, undefS) :: env, H, nx, dfs⟩ else .fail "slot"
      | none => .next ⟨todo, env, H, nx, dfs⟩
    | _ => .fail "guard"
  | none => .fail "guard"
def condS (t : Option SV) (c d : Cfg) : SR := match t with
  | some (.v (.bool b)) => .fork b c d
  | _ => .fail "cond"
def goS (k : Option (List Item)) (env : Env) (H : Heap) (nx : Nat) (dfs : List Nat) (c : Cfg) : SR := match k with
  | some k => .next ⟨k, env, H, nx, dfs⟩
  | none => .stop c
/-- An operation that writes nothing. -/
def quietOp : Op → Bool
  | .move _ | .assign _ | .pick .. | .load .. | .nilCheck _ | .binOp .. | .unOp .. | .convert .. | .makeFunc .. | .slice .. | .fieldAddr .. | .field .. | .indexAddr .. | .index .. | .extract .. | .build .. | .lookup .. => true
  | .call { callee := .builtin b, .. } => match b with | .len | .min | .max => true | _ => false
  | _ => false
/-- A statement that draws its order, of operations that write nothing: in the order of the text. -/
def drawN (nt : Nat) (ex : Env → SR) (dst : Option Nat) (env : Env) : R1 → SR
  | .ok s _ _ => match dst with
    | some d => if d < nt then ex ((d, s) :: env) else .fail "slot"
    | none => ex env
  | .need p r => .need p (drawN nt ex dst env r)
  | _ => .fail "draw"
def drawSkip (nt : Nat) (ex : Env → SR) (dst : Option Nat) (env : Env) : SR := match dst with
  | some d => if d < nt then ex ((d, undefS) :: env) else .fail "slot"
  | none => ex env
def drawG (run skip : SR) (want : Bool) : Option SV → SR
  | some (.v (.bool true)) => if want then run else skip
  | some (.v (.bool false)) => if want then skip else run
  | some (.v (.tuple _)) => skip
  | _ => .fail "draw guard"
def drawGo (P : Program) (gl : Gl) (nt : Nat) (H : Heap) (nx : Nat) (ops : Array Oper) (fin : Env → SR) : List Oper → Env → SR
  | [], env => fin env
  | o :: r, env => if quietOp o.op then match o.guard with
    | none => drawN nt (drawGo P gl nt H nx ops fin r) o.dst env (sop P gl env H nx o.op)
    | some (j, want) => match (ops[j]?).bind (·.dst) with
      | some d => drawG (drawN nt (drawGo P gl nt H nx ops fin r) o.dst env (sop P gl env H nx o.op)) (drawSkip nt (drawGo P gl nt H nx ops fin r) o.dst env) want (env.get d)
      | none => .fail "draw guard"
    else .fail "draw an operation that writes"
def drawFin (k : List Item) (H : Heap) (nx : Nat) (dfs : List Nat) (env : Env) : SR := .next ⟨k, env, H, nx, dfs⟩
def allQuiet : List Oper → Bool
  | [] => true
  | o :: l => (quietOp o.op && o.guard.isNone) && allQuiet l
def drawS (q : Bool) (go : SR) (c : Cfg) (p : Prop) : SR := match q with
  | true => .need p go
  | false => .stop c
def stepS (P : Program) (gl : Gl) (nt : Nat) : Cfg → SR
  | ⟨[], env, H, nx, dfs⟩ => .stop ⟨[], env, H, nx, dfs⟩
  | ⟨.code .skip :: k, env, H, nx, dfs⟩ => .next ⟨k, env, H, nx, dfs⟩
  | ⟨.code (.label _) :: k, env, H, nx, dfs⟩ => .next ⟨k, env, H, nx, dfs⟩
  | ⟨.inBlock _ :: k, env, H, nx, dfs⟩ => .next ⟨k, env, H, nx, dfs⟩
  | ⟨.inScope _ :: k, env, H, nx, dfs⟩ => .next ⟨k, env, H, nx, dfs⟩
  | ⟨.code (.seq a b) :: k, env, H, nx, dfs⟩ => .next ⟨.code a :: .code b :: k, env, H, nx, dfs⟩
  | ⟨.code (.block id b) :: k, env, H, nx, dfs⟩ => .next ⟨.code b :: .inBlock id :: k, env, H, nx, dfs⟩
  | ⟨.code (.scope b) :: k, env, H, nx, dfs⟩ => .next ⟨.code b :: .inScope b :: k, env, H, nx, dfs⟩
  | ⟨.code (.cond x a b) :: k, env, H, nx, dfs⟩ => condS (ev gl env x) ⟨.code a :: k, env, H, nx, dfs⟩ ⟨.code b :: k, env, H, nx, dfs⟩
  | ⟨.code (.exit id) :: k, env, H, nx, dfs⟩ => goS (exitTo id k) env H nx dfs ⟨.code (.exit id) :: k, env, H, nx, dfs⟩
  | ⟨.code (.goto l) :: k, env, H, nx, dfs⟩ => goS (gotoIn l k) env H nx dfs ⟨.code (.goto l) :: k, env, H, nx, dfs⟩
  | ⟨.code (.region _ ops false) :: k, env, H, nx, dfs⟩ => .next ⟨.inRegion ops (List.range ops.size) :: k, env, H, nx, dfs⟩
  | ⟨.code (.region id ops true) :: k, env, H, nx, dfs⟩ => drawS (allQuiet ops.toList) (drawGo P gl nt H nx ops (drawFin k H nx dfs) ops.toList env) ⟨.code (.region id ops true) :: k, env, H, nx, dfs⟩ (Region.lexB .any ops = true)
  | ⟨.inRegion _ [] :: k, env, H, nx, dfs⟩ => .next ⟨k, env, H, nx, dfs⟩
  | ⟨.inRegion ops (i :: r) :: k, env, H, nx, dfs⟩ => match ops[i]? with
    | some o => match o.guard with
      | none => runOp P gl nt o (.inRegion ops r :: k) env H nx dfs
      | some (j, want) => guardS P gl nt o want (.inRegion ops r :: k) env H nx dfs ((ops[j]?).bind (·.dst))
    | none => .fail "no operation"
  | c => .stop c

/-- What has come of a step is taken on by 'ex'. -/
def runR (ex : Cfg → Out) : SR → Out
  | .next c => ex c
  | .need p r => .need p (runR ex r)
  | .all k => .all fun i => runR ex (k i)
  | .fork t c d => match t with | true => ex c | false => ex d
  | .guard t want run skip => if t = want then runR ex run else ex skip
  | .call f args dst c => .call f args dst c
  | .stop c => .stop c
  | .fail s => .fail s
def exec (P : Program) (gl : Gl) (nt : Nat) : Nat → Cfg → Out
  | 0, c => .stop c
  | n + 1, c => runR (exec P gl nt n) (stepS P gl nt c)

theorem exec_succ (P : Program) (gl : Gl) (nt n : Nat) (c : Cfg) : exec P gl nt (n + 1) c = runR (exec P gl nt n) (stepS P gl nt c) := rfl
theorem runR_next (ex : Cfg → Out) (c : Cfg) : runR ex (.next c) = ex c := rfl
theorem runR_need (ex : Cfg → Out) (p : Prop) (r : SR) : runR ex (.need p r) = .need p (runR ex r) := rfl
theorem runR_all (ex : Cfg → Out) (k : Nat → SR) : runR ex (.all k) = .all fun i => runR ex (k i) := rfl
theorem runR_fork_true (ex : Cfg → Out) (c d : Cfg) : runR ex (.fork true c d) = ex c := rfl
theorem runR_fork_false (ex : Cfg → Out) (c d : Cfg) : runR ex (.fork false c d) = ex d := rfl
theorem runR_guard_tt (ex : Cfg → Out) (r : SR) (s : Cfg) : runR ex (.guard true true r s) = runR ex r := rfl
theorem runR_guard_ff (ex : Cfg → Out) (r : SR) (s : Cfg) : runR ex (.guard false false r s) = runR ex r := rfl
theorem runR_guard_tf (ex : Cfg → Out) (r : SR) (s : Cfg) : runR ex (.guard true false r s) = ex s := rfl
theorem runR_guard_ft (ex : Cfg → Out) (r : SR) (s : Cfg) : runR ex (.guard false true r s) = ex s := rfl
theorem runR_call (ex : Cfg → Out) (f : SV) (args : List SV) (dst : Option Nat) (c : Cfg) : runR ex (.call f args dst c) = .call f args dst c := rfl
theorem runR_stop (ex : Cfg → Out) (c : Cfg) : runR ex (.stop c) = .stop c := rfl
theorem runR_fail (ex : Cfg → Out) (s : String) : runR ex (.fail s) = .fail s := rfl

end Go.Sy

/- The machine layer of the walk: what it is that a frame in some state lands in a wanted state; one step of each form of code. No condition. -/
import Derived.Calls
import Derived.Laws.Sem
import Derived.Laws.World
import Derived.Laws.Cells
import Derived.Laws.Append
namespace Go.Sy
open Go
set_option linter.unusedSimpArgs false
set_option linter.unusedVariables false
def Lands (P : Program) (m : Machine) (T : Machine → Prop) : Prop := ∃ m', Steps P m m' ∧ T m'
theorem Lands.step {P : Program} {m m₁ : Machine} {T : Machine → Prop} (h : step P m = .next m₁) (h' : Lands P m₁ T) : Lands P m T :=
  let ⟨m', s, t⟩ := h'; ⟨m', .head h s, t⟩
theorem Lands.steps {P : Program} {m m₁ : Machine} {T : Machine → Prop} (h : Steps P m m₁) (h' : Lands P m₁ T) : Lands P m T :=
  let ⟨m', s, t⟩ := h'; ⟨m', h.trans s, t⟩
theorem Lands.now {P : Program} {m : Machine} {T : Machine → Prop} (h : T m) : Lands P m T := ⟨m, .refl _ _, h⟩
def fr (b : Frame) (a : Act) (todo : List Item) : Frame :=
  { fn := b.fn, tmps := a.tmps, todo, defers := a.defers, mode := .run, kind := b.kind, roundOf := b.roundOf }
theorem fr_eval (b : Frame) (a : Act) (todo : List Item) (x : Operand) : (fr b a todo).eval x = a.eval x := by cases x <;> rfl
section
variable {P : Program} {b : Frame} {a : Act} {k : List Item} {cs : List Frame} {w : World} {T : Machine → Prop}
theorem lands_skip (h : Lands P (lone (fr b a k) cs w) T) : Lands P (lone (fr b a (.code .skip :: k)) cs w) T :=
  .step (step_lone_go (by simp [stepG, stepG.exec, fr])) h
theorem lands_label {l : Nat} (h : Lands P (lone (fr b a k) cs w) T) : Lands P (lone (fr b a (.code (.label l) :: k)) cs w) T :=
  .step (step_lone_go (by simp [stepG, stepG.exec, fr])) h
theorem lands_inBlock {id : Nat} (h : Lands P (lone (fr b a k) cs w) T) : Lands P (lone (fr b a (.inBlock id :: k)) cs w) T :=
  .step (step_lone_go (by simp [stepG, stepG.exec, fr])) h
theorem lands_inScope {c : Code} (h : Lands P (lone (fr b a k) cs w) T) : Lands P (lone (fr b a (.inScope c :: k)) cs w) T :=
  .step (step_lone_go (by simp [stepG, stepG.exec, fr])) h
theorem lands_seq {x y : Code} (h : Lands P (lone (fr b a (.code x :: .code y :: k)) cs w) T) : Lands P (lone (fr b a (.code (.seq x y) :: k)) cs w) T :=
  .step (step_lone_go (by simp [stepG, stepG.exec, fr])) h
theorem lands_block {id : Nat} {c : Code} (h : Lands P (lone (fr b a (.code c :: .inBlock id :: k)) cs w) T) : Lands P (lone (fr b a (.code (.block id c) :: k)) cs w) T :=
  .step (step_lone_go (by simp [stepG, stepG.exec, fr])) h
theorem lands_scope {c : Code} (h : Lands P (lone (fr b a (.code c :: .inScope c :: k)) cs w) T) : Lands P (lone (fr b a (.code (.scope c) :: k)) cs w) T :=
  .step (step_lone_go (by simp [stepG, stepG.exec, fr])) h
theorem lands_loop {c : Code} (h : Lands P (lone (fr b a (.code c :: .inLoop c :: k)) cs w) T) : Lands P (lone (fr b a (.code (.loop c) :: k)) cs w) T :=
  .step (step_lone_go (by simp [stepG, stepG.exec, fr])) h
theorem lands_inLoop {c : Code} (h : Lands P (lone (fr b a (.code c :: .inLoop c :: k)) cs w) T) : Lands P (lone (fr b a (.inLoop c :: k)) cs w) T :=
  .step (step_lone_go (by simp [stepG, stepG.exec, fr])) h
theorem lands_cond {x : Operand} {c d : Code} {t : Bool} (ht : a.eval x = .bool t) (h : Lands P (lone (fr b a (.code (if t then c else d) :: k)) cs w) T) :
    Lands P (lone (fr b a (.code (.cond x c d) :: k)) cs w) T :=
  .step (step_lone_go (by
    have := fr_eval b a (.code (.cond x c d) :: k) x
    simp only [fr] at this
    simp [stepG, stepG.exec, fr, this, ht])) h
theorem lands_exit {id : Nat} {k' : List Item} (hk : exitTo id k = some k') (h : Lands P (lone (fr b a k') cs w) T) : Lands P (lone (fr b a (.code (.exit id) :: k)) cs w) T :=
  .step (step_lone_go (by simp [stepG, stepG.exec, fr, hk])) h
theorem lands_goto {l : Nat} {k' : List Item} (hk : gotoIn l k = some k') (h : Lands P (lone (fr b a k') cs w) T) : Lands P (lone (fr b a (.code (.goto l) :: k)) cs w) T :=
  .step (step_lone_go (by simp [stepG, stepG.exec, fr, hk])) h
theorem lands_region {id : Nat} {ops : Array Oper} (h : Lands P (lone (fr b a (.inRegion ops (List.range ops.size) :: k)) cs w) T) :
    Lands P (lone (fr b a (.code (.region id ops false) :: k)) cs w) T :=
  .step (step_lone_go (by simp [stepG, stepG.exec, fr])) h
theorem lands_region_draw {id : Nat} {ops : Array Oper}
    (h : ∀ t, Lands P (lone (fr b a (.inRegion ops (Region.schedule (P.follows .mixedOrders) ops t) :: k)) cs { w with drawn := w.drawn + 1 }) T) :
    Lands P (lone (fr b a (.code (.region id ops true) :: k)) cs w) T :=
  .step (step_lone_go (by simp [stepG, stepG.exec, fr, choose, Sem.run, Question.forced, Question.cut])) (h (w.tape w.drawn (.order b.fn id)))
theorem lands_region_end {ops : Array Oper} (h : Lands P (lone (fr b a k) cs w) T) : Lands P (lone (fr b a (.inRegion ops [] :: k)) cs w) T :=
  .step (step_lone_go (by simp [stepG, stepG.exec, fr])) h
def put (t : Array Value) (dst : Option Tmp) (v : Value) : Array Value := match dst with | some d => t.setIfInBounds d v | none => t
theorem fr_finish (b : Frame) (a : Act) (ops : Array Oper) (i : Nat) (rest : List Nat) (k : List Item) (v : Value) :
    (fr b a (.inRegion ops (i :: rest) :: k)).finish v = fr b { a with tmps := put a.tmps ((ops[i]?).bind (·.dst)) v } (.inRegion ops rest :: k) := by
  cases h : (ops[i]?).bind (·.dst) <;> simp [Frame.finish, fr, put, h]
theorem lands_op_skip {ops : Array Oper} {i : Nat} {rest : List Nat} {o : Oper} (ho : ops[i]? = some o) (hw : Region.wanted o (yielded ops a.tmps) = false)
    (h : Lands P (lone (fr b { a with tmps := put a.tmps o.dst undef } (.inRegion ops rest :: k)) cs w) T) : Lands P (lone (fr b a (.inRegion ops (i :: rest) :: k)) cs w) T := by
  refine .step (m₁ := lone ((fr b a (.inRegion ops (i :: rest) :: k)).finish undef) cs w) (step_lone_go ?_) ?_
  · simp only [fr]
    simp [stepG, stepG.exec, ho, hw]
  · rw [fr_finish, ho]; exact h
theorem stepG_fr_op {ops : Array Oper} {i : Nat} {rest : List Nat} {o : Oper} (ho : ops[i]? = some o) (hw : Region.wanted o (yielded ops a.tmps) = true) (hd : ∀ c, o.op ≠ .defer c) :
    stepG P true { frame := fr b a (.inRegion ops (i :: rest) :: k), callers := cs, status := .running, dying := none } w =
      stepG.apply P true (fr b a (.inRegion ops (i :: rest) :: k)) cs none (execOp a.eval o) w := by
  have he : ∀ r, (Frame.mk b.fn a.tmps (.inRegion ops (i :: rest) :: k) a.defers .run b.kind r).eval = a.eval := fun r => funext fun x => by cases x <;> rfl
  cases hr : b.roundOf with
  | none => simp [stepG, stepG.exec, stepG.oper, Frame.oper?, fr, ho, hw, he, hr]
  | some l =>
    simp [stepG, stepG.exec, stepG.oper, Frame.oper?, fr, ho, hw, he, hr]
    cases hop : o.op <;> simp [hop] at hd ⊢
theorem lands_op_value {ops : Array Oper} {i : Nat} {rest : List Nat} {o : Oper} {v : Value} {w' : World} (ho : ops[i]? = some o) (hw : Region.wanted o (yielded ops a.tmps) = true)
    (hd : ∀ c, o.op ≠ .defer c) (hr : (execOp a.eval o).run P w = .ok (.value v) w')
    (h : Lands P (lone (fr b { a with tmps := put a.tmps o.dst v } (.inRegion ops rest :: k)) cs w') T) : Lands P (lone (fr b a (.inRegion ops (i :: rest) :: k)) cs w) T := by
  refine .step (m₁ := lone ((fr b a (.inRegion ops (i :: rest) :: k)).finish v) cs w') (step_lone_go ?_) ?_
  · rw [stepG_fr_op ho hw hd]; simp [stepG.apply, hr]
  · rw [fr_finish, ho]; exact h
theorem lands_op_unit {ops : Array Oper} {i : Nat} {rest : List Nat} {o : Oper} {w' : World} (ho : ops[i]? = some o) (hw : Region.wanted o (yielded ops a.tmps) = true)
    (hd : ∀ c, o.op ≠ .defer c) (hr : (execOp a.eval o).run P w = .ok .skip w')
    (h : Lands P (lone (fr b { a with tmps := put a.tmps o.dst undef } (.inRegion ops rest :: k)) cs w') T) : Lands P (lone (fr b a (.inRegion ops (i :: rest) :: k)) cs w) T := by
  refine .step (m₁ := lone ((fr b a (.inRegion ops (i :: rest) :: k)).finish undef) cs w') (step_lone_go ?_) ?_
  · rw [stepG_fr_op ho hw hd]; simp [stepG.apply, hr]
  · rw [fr_finish, ho]; exact h
end
def CallsV (P : Program) (f : Value) (args : Array Value) (w : World) (R : Value → World → Prop) : Prop :=
  ∀ (c : Frame) (cs : List Frame), (∀ d x r s k, c.todo ≠ .call d x r s :: k) → (∀ r s k, c.todo ≠ .extern r s :: k) → c.kind ≠ .early →
    ∃ (v : Value) (w' : World) (f₁ : Frame) (cs₁ : List Frame) (w₁ : World), R v w' ∧
      (stepG.apply P true c cs none (do let d ← Deferred.ofValue f args; invoke d.target d.args) w).bare = GStep.go { frame := f₁, callers := cs₁, status := .running, dying := none } w₁ ∧
      Steps P (lone f₁ cs₁ w₁) (lone (c.finish v) cs w')
theorem CallsV.mono {P : Program} {f : Value} {args : Array Value} {w : World} {R R' : Value → World → Prop} (h : CallsV P f args w R) (hr : ∀ v w', R v w' → R' v w') : CallsV P f args w R' :=
  fun c cs h1 h2 h3 => let ⟨v, w', f₁, cs₁, w₁, r, rest⟩ := h c cs h1 h2 h3; ⟨v, w', f₁, cs₁, w₁, hr _ _ r, rest⟩
theorem CallsV.of_calls {P : Program} {f : FuncId} {first caps args : Array Value} {w : World} {fn : Func} {R : Value → World → Prop}
    (hf : P.funcs[f]? = some fn) (hb : fn.body.isNone = false) (hn : (fn.name == "runtime.NumGoroutine") = false)
    (h : Calls P f (first ++ args ++ caps) w fun e w' => ∃ v, e = .returned v ∧ R v w') : CallsV P (.func (.func f) first caps) args w R := by
  intro c cs h1 h2 h3
  obtain ⟨e, w', fr', ⟨v, rfl, hR⟩, hs, _, hl⟩ := h (c :: cs)
  refine ⟨v, w', Frame.enter P f (first ++ args ++ caps) .normal, c :: cs, w, hR, ?_, ?_⟩
  · have hbody : ∃ x, fn.body = some x := by cases hx : fn.body with | none => simp [hx] at hb | some x => exact ⟨x, rfl⟩
    obtain ⟨x, hx⟩ := hbody
    have hrun : (do let d ← Deferred.ofValue (.func (.func f) first caps) args; invoke d.target d.args : Sem Next).run P w = .ok (.enter f (first ++ args ++ caps)) w := by
      have hn' : ¬ fn.name = "runtime.NumGoroutine" := by simpa using hn
      simp [Deferred.ofValue, invoke, callFunc, hf, hx, hn']
    simp only [stepG.apply, Sem.runT_eq, if_true, hrun, GStep.bare_after]
    congr 3
    split
    · rename_i heq; exact absurd heq (h1 _ _ _ _ _)
    · rfl
  · exact (show Steps P (lone (Frame.enter P f (first ++ args ++ caps) .normal) (c :: cs) w) (lone fr' (c :: cs) w') from hs).trans (.one (step_leave_returned hl))
section
variable {P : Program} {b : Frame} {a : Act} {k : List Item} {cs : List Frame} {w : World} {T : Machine → Prop}
theorem lands_op_call {ops : Array Oper} {i : Nat} {rest : List Nat} {o : Oper} {f : Operand} {args : Array Operand} {tys : Array TypeId} {R : Value → World → Prop}
    (ho : ops[i]? = some o) (hop : o.op = .call { callee := .value f, args, argTypes := tys }) (hw : Region.wanted o (yielded ops a.tmps) = true) (hk : b.kind ≠ .early)
    (hc : CallsV P (a.eval f) (args.map a.eval) w R)
    (h : ∀ v w', R v w' → Lands P (lone (fr b { a with tmps := put a.tmps o.dst v } (.inRegion ops rest :: k)) cs w') T) : Lands P (lone (fr b a (.inRegion ops (i :: rest) :: k)) cs w) T := by
  obtain ⟨v, w', frame, callers, w₁, hR, hs, hsteps⟩ := hc (fr b a (.inRegion ops (i :: rest) :: k)) cs (by simp [fr]) (by simp [fr]) hk
  have hg := stepG_fr_op (P := P) (b := b) (k := k) (cs := cs) (w := w) (rest := rest) ho hw (by rw [hop]; simp)
  have hex : execOp a.eval o = (do let d ← Deferred.ofValue (a.eval f) (args.map a.eval); invoke d.target d.args) := by
    simp only [execOp, hop, resolve]
  rw [hex] at hg
  refine .step (m₁ := lone frame callers w₁) (step_lone_go (by rw [hg]; exact hs)) ?_
  refine .steps hsteps ?_
  rw [fr_finish, ho]
  exact h v w' hR
end
def Back (P : Program) (f : FuncId) (cs : List Frame) (R : Value → World → Prop) (m : Machine) : Prop :=
  ∃ (fr' : Frame) (v : Value) (w' : World), m = lone fr' cs w' ∧ fr'.fn = f ∧ fr'.leaving P w' (.returned v) ∧ R v w'
def base (f : FuncId) : Frame := { (default : Frame) with fn := f, kind := .normal }
theorem calls_of_lands {P : Program} {f : FuncId} {fn : Func} {c : Code} {args : Array Value} {w : World} {R : Value → World → Prop}
    (hf : P.funcs[f]? = some fn) (hb : fn.body = some c)
    (h : ∀ cs, Lands P (lone (fr (base f) { tmps := args ++ Array.replicate (fn.ntmps - args.size) undef, defers := [] } [.code c]) cs w) (Back P f cs R)) :
    Calls P f args w fun e w' => ∃ v, e = .returned v ∧ R v w' := by
  intro cs
  obtain ⟨m', hs, fr', v, w', rfl, hfn, hl, hR⟩ := h cs
  have henter : Frame.enter P f args .normal = fr (base f) { tmps := args ++ Array.replicate (fn.ntmps - args.size) undef, defers := [] } [.code c] := by
    simp [Frame.enter, fr, hf, hb, base]
    rfl
  refine ⟨.returned v, w', fr', ⟨v, rfl, hR⟩, ?_, hfn, hl⟩
  rw [henter]
  exact hs
section
variable {P : Program} {f : FuncId} {fn : Func} {a : Act} {k : List Item} {cs : List Frame} {w : World} {R : Value → World → Prop}
end
end Go.Sy

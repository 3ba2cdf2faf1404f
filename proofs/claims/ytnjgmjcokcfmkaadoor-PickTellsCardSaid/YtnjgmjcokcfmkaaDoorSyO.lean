/- Loops over functions. No condition. -/
import Derived.Test.YtnjgmjcokcfmkaaDoorSyT
namespace Go.Sy
open Go
set_option linter.unusedSimpArgs false
set_option linter.unusedVariables false

section
variable {P : Program} {b : Frame} {a : Act} {k : List Item} {cs : List Frame} {w : World} {T : Machine → Prop}

/-- A loop over a function begins: the function is called. -/
theorem lands_rangeFunc {f : Operand} {ps : Array Tmp} {asg body : Code} {l : Nat} {mark : List Deferred} {w1 : World} {R : Value → World → Prop} (hk : b.kind ≠ .early)
    (henter : (Instr.enterLoop b.fn a.tmps ps asg body b.roundOf).run P w = .ok (l, mark) w1) (hc : CallsV P (a.eval f) #[.func (.yield l) #[] #[]] w1 R)
    (h : ∀ v w', R v w' → Lands P (lone (fr b { a with defers := mark ++ a.defers } (.endRangeFunc l :: k)) cs w') T) : Lands P (lone (fr b a (.code (.rangeFunc f ps asg body) :: k)) cs w) T := by
  obtain ⟨v, w', frame, callers, w₁, hR, hs, hsteps⟩ := hc { fr b a (.inRangeFunc l :: k) with defers := mark ++ a.defers } cs (by simp [fr]) (by simp [fr]) hk
  refine .step (m₁ := lone frame callers w₁) (step_lone_go ?_) (.steps hsteps ?_)
  · have he : ∀ (x : Frame), x.tmps = a.tmps → x.eval = a.eval := fun x hx => funext fun y => by cases y <;> simp [Frame.eval, Act.eval, hx]
    simp only [fr, stepG, stepG.exec, Sem.runT_eq, henter, GStep.bare_after]
    rw [← hs]
    simp only [fr, resolve]
    rw [he _ rfl]
    have e1 : Array.map a.eval #[Operand.const (Value.func (Fn.yield l) #[] #[])] = #[Value.func (Fn.yield l) #[] #[]] := by simp [Act.eval]
    rw [e1]
  · exact h v w' hR

theorem lands_endRangeFunc {l : Nat} {r : Loop} (hr : w.heap[l]? = some (.loop r)) (hst : r.state ≠ .busy)
    (h : Lands P (lone (fr b a ((r.pending.map Item.code).toList ++ k)) cs { w with heap := w.heap.setIfInBounds l (.loop { r with state := .exhausted }) }) T) : Lands P (lone (fr b a (.endRangeFunc l :: k)) cs w) T := by
  refine .step (step_lone_go ?_) h
  have hrun : (Instr.endLoop l).run P w = .ok r.pending { w with heap := w.heap.setIfInBounds l (.loop { r with state := .exhausted }) } := by
    simp [Instr.endLoop, Instr.getLoop, getObj, setObj, Sem.run, hr, hst]
  simp [stepG, stepG.exec, fr, Sem.runT_eq, hrun]

theorem lands_beginRound {l : Nat} {r : Loop} (hb : b.roundOf = some l) (hr : w.heap[l]? = some (.loop r)) (hst : r.state = .ready)
    (h : Lands P (lone (fr b a k) cs { w with heap := w.heap.setIfInBounds l (.loop { r with state := .busy }) }) T) : Lands P (lone (fr b a (.beginRound :: k)) cs w) T := by
  refine .step (step_lone_go ?_) h
  have hrun : (Instr.beginRound l).run P w = .ok () { w with heap := w.heap.setIfInBounds l (.loop { r with state := .busy }) } := by
    simp [Instr.beginRound, Instr.getLoop, getObj, setObj, Sem.run, hr, hst]
  simp [stepG, stepG.exec, stepG.apply, fr, Sem.runT_eq, hrun, hb, Frame.finish]

/-- What a round lands in. -/
def RBack (l : Nat) (c : Frame) (cs : List Frame) (R : Value → World → Prop) (m : Machine) : Prop := ∃ v w', R v w' ∧ m = lone (c.finish v) cs w'

/-- The round ends. -/
theorem lands_endRound {l : Nat} {r : Loop} {jump : Option Code} {c : Frame} {R : Value → World → Prop} {todo : List Item} (hb : b.roundOf = some l) (hkn : b.kind = .normal) (hr : w.heap[l]? = some (.loop r))
    (htodo : (todo = [] ∧ jump = none) ∨ (∃ k, todo = .code .ret :: k ∧ jump = some .ret) ∨ (∃ i k, todo = .code (.exit i) :: k ∧ exitTo i k = none ∧ jump = some (.exit i)) ∨ (∃ i k, todo = .code (.goto i) :: k ∧ gotoIn i k = none ∧ jump = some (.goto i)))
    (h : R (.bool jump.isNone) { w with heap := w.heap.setIfInBounds l (.loop { r with state := if jump.isNone then .ready else .done, pending := jump }) }) : Lands P (lone (fr b a todo) (c :: cs) w) (RBack l c cs R) := by
  have hrun : (Instr.endRound l jump).run P w = .ok (.bool jump.isNone) { w with heap := w.heap.setIfInBounds l (.loop { r with state := if jump.isNone then .ready else .done, pending := jump }) } := by
    simp [Instr.endRound, Instr.getLoop, getObj, setObj, Sem.run, hr]
  refine .step (m₁ := lone (c.finish (.bool jump.isNone)) cs { w with heap := w.heap.setIfInBounds l (.loop { r with state := if jump.isNone then .ready else .done, pending := jump }) }) (step_lone_go ?_) (.now ⟨_, _, h, rfl⟩)
  rcases htodo with ⟨rfl, rfl⟩ | ⟨k, rfl, rfl⟩ | ⟨i, k, rfl, hk, rfl⟩ | ⟨i, k, rfl, hk, rfl⟩
  · simp [stepG, stepG.exec, fr, Sem.runT_eq, hb, hrun, doReturn, hkn]
  · simp [stepG, stepG.exec, fr, Sem.runT_eq, hb, hrun, doReturn, hkn]
  · simp [stepG, stepG.exec, fr, Sem.runT_eq, hb, hrun, doReturn, hkn, hk]
  · simp [stepG, stepG.exec, fr, Sem.runT_eq, hb, hrun, doReturn, hkn, hk]

/-- The loop's own function is called: a round. -/
theorem CallsV.round {l : Nat} {r : Loop} {args : Array Value} {R : Value → World → Prop} (hr : w.heap[l]? = some (.loop r)) (hn : args.size = r.params.size)
    (h : ∀ c cs, Lands P (lone (fr { (default : Frame) with fn := r.fn, kind := .normal, roundOf := some l } ⟨(r.params.zip args).foldl (fun tmps (t, a) => tmps.setIfInBounds t a) r.tmps, []⟩ [.code r.assign, .beginRound, .code r.body]) (c :: cs) w) (RBack l c cs R)) :
    CallsV P (.func (.yield l) #[] #[]) args w R := by
  intro c cs h1 h2 h3
  obtain ⟨m, hsteps, v, w', hR, rfl⟩ := h c cs
  refine ⟨v, w', _, c :: cs, w, hR, ?_, hsteps⟩
  have hrun : (do let d ← Deferred.ofValue (.func (.yield l) #[] #[]) args; invoke d.target d.args : Sem Next).run P w = .ok (.round l r.fn ((r.params.zip args).foldl (fun tmps (t, a) => tmps.setIfInBounds t a) r.tmps) r.assign r.body) w := by
    simp [Deferred.ofValue, invoke, Instr.yield, Instr.getLoop, getObj, Sem.run, hr, hn]
  simp only [stepG.apply, Sem.runT_eq, if_true, hrun, GStep.bare_after]
  rfl
end

theorem bool_rel {ν : Nm} (t : Bool) : Rel ν (.v (.bool t)) (.bool t) := rfl

/-- How the arguments of a round are bound. -/
def bindP : List Tmp → List SV → Env → Env
  | t :: ts, s :: ss, env => bindP ts ss ((t, s) :: env)
  | _, _, env => env
theorem bindP_rel {ν : Nm} {nt : Nat} : ∀ {ps : List Tmp} {ss : List SV} {vs : List Value} {env : Env} {tm : Array Value}, (∀ t ∈ ps, t < nt) → RelE ν nt env tm → RelL ν ss vs → ps.length = vs.length →
    RelE ν nt (bindP ps ss env) ((ps.zip vs).foldl (fun tmps (p : Tmp × Value) => tmps.setIfInBounds p.1 p.2) tm)
  | [], ss, vs, env, tm, _, hE, _, _ => by cases ss <;> exact hE
  | t :: ps, [], vs, env, tm, _, _, hv, hl => by simp only [RelL] at hv; subst hv; simp at hl
  | t :: ps, s :: ss, vs, env, tm, hp, hE, hv, hl => by
    simp only [RelL] at hv
    obtain ⟨y, ys, rfl, h1, h2⟩ := hv
    simp only [bindP, List.zip_cons_cons, List.foldl_cons]
    exact bindP_rel (fun u hu => hp u (by simp [hu])) (hE.put (hp t (by simp)) h1) h2 (by simpa using hl)

/-- A LOOP OVER A FUNCTION (not in a round of another one): the function is called with the loop's own one; 'K' is what is owed behind it. -/
theorem Sat.rangeFunc {κ : Kx} {x : Ctx} {f : Operand} {ps : Array Tmp} {asg body : Code} {k : List Item} {env : Env} {H : Heap} {nx : Nat} {dfs : List Nat} {g : SV} (hro : κ.b.roundOf = none) (hf : ev x.gl env f = some g)
    (h : Does κ.P x g [.yl (nx + 1)] (nx + 2) ((nx + 1, .loop .ready none κ.b.fn κ.nt env ps asg body nx) :: (nx, .obj (.deferred (some []))) :: H) (fun _ H' n' => ∃ st pd fn nt e qs as bo d, H'.get (nx + 1) = some (.loop st pd fn nt e qs as bo d) ∧ st ≠ .busy ∧
      Sat κ x ⟨(pd.map Item.code).toList ++ k, env, H'.drop (nx + 1), n', nx :: dfs⟩)) : Sat κ x ⟨.code (.rangeFunc f ps asg body) :: k, env, H, nx, dfs⟩ := by
  intro ν w a hn hH hE hD
  have hn : ν.nx = nx := hn
  subst hn
  have hH1 : Holds x (ν.name w.heap.size) ((ν.nx, .obj (.deferred (some []))) :: H) { w with heap := w.heap.push (.deferred (some [])) } :=
    hH.push (o := .deferred (some [])) rfl ⟨rfl, rfl, rfl⟩ ⟨Nat.lt_succ_self _, by simp, by rw [Nm.name_blk]; simp⟩
  have hg1 := Grows.name ν w.heap.size
  have hsz : (w.heap.push (Obj.deferred (some []))).size = w.heap.size + 1 := by simp
  let ν2 := (ν.name w.heap.size).name (w.heap.size + 1)
  have hg2 : Grows (ν.name w.heap.size) ν2 := Grows.name _ _
  let lp : Loop := ⟨.ready, none, κ.b.fn, a.tmps, ps, asg, body, w.heap.size⟩
  have hb0 : ν2.blk ν.nx = w.heap.size := by
    have := hg2.2.1 ν.nx (Nat.lt_succ_self _)
    rw [this, Nm.name_blk]
  have hb1 : ν2.blk (ν.nx + 1) = w.heap.size + 1 := Nm.name_blk (ν.name w.heap.size) (w.heap.size + 1)
  have hH2 : Holds x ν2 ((ν.nx + 1, .loop .ready none κ.b.fn κ.nt env ps asg body ν.nx) :: (ν.nx, .obj (.deferred (some []))) :: H) { w with heap := (w.heap.push (.deferred (some []))).push (.loop lp) } := by
    have e9 : ({ w with heap := w.heap.push (Obj.deferred (some [])) } : World).heap.size = w.heap.size + 1 := hsz
    have hb9 : BlkOK ν2 { w with heap := (w.heap.push (.deferred (some []))).push (.loop lp) } (ν.nx + 1) (.loop .ready none κ.b.fn κ.nt env ps asg body ν.nx) := by
      refine ⟨by show ν.nx + 1 < ν.nx + 1 + 1; omega, by show ν.nx < ν.nx + 1 + 1; omega, a.tmps, ?_, hE.grows (hg1.trans hg2)⟩
      rw [hb1, hb0]
      show ((w.heap.push (Obj.deferred (some []))).push (.loop lp))[w.heap.size + 1]? = some (Obj.loop lp)
      rw [← hsz]; exact Array.getElem?_push_size
    have h9 := hH1.push (w' := { w with heap := (w.heap.push (.deferred (some []))).push (.loop lp) }) (o := .loop lp) (b := .loop .ready none κ.b.fn κ.nt env ps asg body ν.nx) rfl ⟨rfl, rfl, rfl⟩ (by rw [e9]; exact hb9)
    rw [e9] at h9
    exact h9
  have henter : (Instr.enterLoop κ.b.fn a.tmps ps asg body κ.b.roundOf).run κ.P w = .ok (w.heap.size + 1, [{ target := .collected w.heap.size, args := #[] }]) { w with heap := (w.heap.push (.deferred (some []))).push (.loop lp) } := by
    rw [hro]
    simp [Instr.enterLoop, newObj, Sem.run, lp]
    rfl
  have hfv := (ev_rel hH.glOK hE hf).grows (hg1.trans hg2)
  have hc := h ν2 _ _ [.func (.yield (w.heap.size + 1)) #[] #[]] rfl hH2 hfv ⟨_, [], rfl, ⟨by show ν.nx + 1 < ν.nx + 1 + 1; omega, by rw [hb1]⟩, rfl⟩
  refine lands_rangeFunc κ.hk henter hc ?_
  rintro v w' ⟨ν', H', s, hg3, hH3, _, st, pd, fn, nt, e, qs, as, bo, d, hget, hst, hsat⟩
  obtain ⟨_, hd, tm, hl, _⟩ := hH3.ok _ _ hget
  have hb1' : ν'.blk (ν.nx + 1) = w.heap.size + 1 := by
    have := hg3.2.1 (ν.nx + 1) (by show ν.nx + 1 < ν.nx + 1 + 1; omega)
    rw [this]; exact hb1
  rw [hb1'] at hl
  refine lands_endRangeFunc hl hst ?_
  have hH4 : Holds x ν' (H'.drop (ν.nx + 1)) { w' with heap := w'.heap.setIfInBounds (w.heap.size + 1) (.loop ⟨.exhausted, pd, fn, tm, qs, as, bo, ν'.blk d⟩) } := by
    have hlt : w.heap.size + 1 < w'.heap.size := (Array.getElem?_eq_some_iff.1 hl).1
    have h1 : Holds x ν' (H'.set (ν.nx + 1) (.obj (.loop ⟨.exhausted, pd, fn, tm, qs, as, bo, ν'.blk d⟩))) { w' with heap := w'.heap.setIfInBounds (w.heap.size + 1) (.loop ⟨.exhausted, pd, fn, tm, qs, as, bo, ν'.blk d⟩) } :=
      hH3.write hget trivial (fun k hk => by rw [hb1'] at hk; simp [Array.getElem?_setIfInBounds, Ne.symm hk]) (by simp) ⟨rfl, rfl, rfl⟩ ⟨hH3.lt hget, by simp, by rw [hb1']; simp [hlt]⟩
    refine h1.less fun i b hb => ?_
    rw [Heap.get_drop] at hb
    split at hb
    · cases hb
    · rename_i hne
      rw [Heap.get_set, if_neg hne]; exact hb
  refine hsat ν' _ _ rfl hH4 (hE.grows ((hg1.trans hg2).trans hg3)) ?_
  have hD' := hD.grows ((hg1.trans hg2).trans hg3)
  refine ⟨fun i hi => ?_, ?_⟩
  · rcases List.mem_cons.1 hi with rfl | hi
    · exact Nat.lt_of_lt_of_le (show ν.nx < ν.nx + 1 + 1 by omega) hg3.1
    · exact hD'.1 i hi
  · simp only [List.map_cons, List.singleton_append]
    have : ν'.blk ν.nx = w.heap.size := by
      rw [hg3.2.1 ν.nx (by show ν.nx < ν.nx + 1 + 1; omega)]; exact hb0
    rw [this, hD'.2]

/-- The frame of a round: what holds where it ends. 'id': the loop. -/
structure Rnd (κ : Kx) (x : Ctx) (P : Program) (gl : Gl) (nt : Nat) (id m : Nat) (K : SV → Heap → Nat → Prop) : Prop where
  hP : κ.P = P
  hn : κ.nt = nt
  hgl : x.gl = gl
  hm : x.nm.nx = m
  beg : ∀ (k : List Item) (env : Env) (H : Heap) (nx : Nat) (dfs : List Nat) pd fn n e qs as bo d, H.get id = some (.loop .ready pd fn n e qs as bo d) → Sat κ x ⟨k, env, H.set id (.loop .busy pd fn n e qs as bo d), nx, dfs⟩ → Sat κ x ⟨.beginRound :: k, env, H, nx, dfs⟩
  fin : ∀ (env : Env) (H : Heap) (nx : Nat) st pd fn n e qs as bo d, H.get id = some (.loop st pd fn n e qs as bo d) → K (.v (.bool true)) (H.set id (.loop .ready none fn n e qs as bo d)) nx → Sat κ x ⟨[], env, H, nx, []⟩
  ret : ∀ (k : List Item) (env : Env) (H : Heap) (nx : Nat) st pd fn n e qs as bo d, H.get id = some (.loop st pd fn n e qs as bo d) → K (.v (.bool false)) (H.set id (.loop .done (some .ret) fn n e qs as bo d)) nx → Sat κ x ⟨.code .ret :: k, env, H, nx, []⟩
  exit : ∀ (i : Nat) (k : List Item) (env : Env) (H : Heap) (nx : Nat) st pd fn n e qs as bo d, exitTo i k = none → H.get id = some (.loop st pd fn n e qs as bo d) → K (.v (.bool false)) (H.set id (.loop .done (some (.exit i)) fn n e qs as bo d)) nx → Sat κ x ⟨.code (.exit i) :: k, env, H, nx, []⟩
  goto : ∀ (i : Nat) (k : List Item) (env : Env) (H : Heap) (nx : Nat) st pd fn n e qs as bo d, gotoIn i k = none → H.get id = some (.loop st pd fn n e qs as bo d) → K (.v (.bool false)) (H.set id (.loop .done (some (.goto i)) fn n e qs as bo d)) nx → Sat κ x ⟨.code (.goto i) :: k, env, H, nx, []⟩

theorem Rnd.run {κ : Kx} {x : Ctx} {P : Program} {gl : Gl} {nt id m : Nat} {K : SV → Heap → Nat → Prop} (e : Rnd κ x P gl nt id m K) {c : Cfg} (n : Nat) (h : OutOK κ x (exec P gl nt n c)) : Sat κ x c := by
  obtain ⟨rfl, rfl, rfl, _, _, _, _, _, _⟩ := e
  exact exec_sound n c h

theorem Holds.setLoop {x : Ctx} {ν : Nm} {H : Heap} {w : World} {id : Nat} {st : LoopState} {pd : Option Code} {fn : FuncId} {n : Nat} {e : Env} {qs : Array Tmp} {as bo : Code} {d : Nat} {tm : Array Value} (hH : Holds x ν H w) (hget : H.get id = some (.loop st pd fn n e qs as bo d))
    (hl : w.heap[ν.blk id]? = some (.loop ⟨st, pd, fn, tm, qs, as, bo, ν.blk d⟩)) (st' : LoopState) (pd' : Option Code) :
    Holds x ν (H.set id (.loop st' pd' fn n e qs as bo d)) { w with heap := w.heap.setIfInBounds (ν.blk id) (.loop ⟨st', pd', fn, tm, qs, as, bo, ν.blk d⟩) } := by
  obtain ⟨h0, h1, tm', h2, h3⟩ := hH.ok _ _ hget
  have hlt : ν.blk id < w.heap.size := (Array.getElem?_eq_some_iff.1 hl).1
  have e : tm' = tm := by
    rw [hl] at h2
    simp only [Option.some.injEq, Obj.loop.injEq, Loop.mk.injEq] at h2
    exact h2.2.2.2.1.symm
  subst e
  exact hH.write hget trivial (fun k hk => by simp [Array.getElem?_setIfInBounds, Ne.symm hk]) (by simp) ⟨rfl, rfl, rfl⟩ ⟨h0, h1, tm', by simp [hlt], h3⟩

/-- THE LOOP'S OWN FUNCTION IS CALLED: a round is walked here, and its end leads on. -/
theorem Does.round {P0 : Program} {x : Ctx} {id : Nat} {args : List SV} {nx : Nat} {H : Heap} {K : SV → Heap → Nat → Prop} {P : Program} {gl : Gl} (hP : P0 = P) (hgl : x.gl = gl) (hm : P.follows .mixedOrders = true) {pd : Option Code} {fn : FuncId} {nt : Nat} {env : Env} {ps : Array Tmp} {asg body : Code} {d : Nat}
    {st : LoopState} (hid : H.get id = some (.loop st pd fn nt env ps asg body d)) (hps : ps.size = args.length) (hb : (ps.toList.all fun t => Nat.blt t nt) = true)
    (h : ∀ κ' x', Rnd κ' x' P gl nt id nx K → Sat κ' x' ⟨[.code asg, .beginRound, .code body], bindP ps.toList args env, H, nx, []⟩) : Does P0 x (.yl id) args nx H K := by
  intro ν w fv vs hn hH hfv hvs
  subst hP hgl
  simp only [Rel] at hfv
  obtain ⟨hlt, rfl⟩ := hfv
  obtain ⟨_, hd, tm, hl, hE⟩ := hH.ok _ _ hid
  refine CallsV.round (r := ⟨st, pd, fn, tm, ps, asg, body, ν.blk d⟩) hl (by simp [hps, hvs.length]) fun c cs => ?_
  let b : Frame := { (default : Frame) with fn := fn, kind := .normal, roundOf := some (ν.blk id) }
  let R : Value → World → Prop := fun v w' => ∃ ν' H' s, Grows ν ν' ∧ Holds x ν' H' w' ∧ Rel ν' s v ∧ K s H' ν'.nx
  let κ' : Kx := { P := P0, b := b, cs := c :: cs, T := RBack (ν.blk id) c cs R, nt := nt, hk := by simp [b], hm := hm }
  let x' : Ctx := ⟨x.w0, x.S, ν, x.gl⟩
  have hH' : Holds x' ν H w := ⟨hH.ok, hH.sep, hH.mine, hH.ro, hH.rosep, fun k c hk => .inl hk, hH.gl, hH.frame, hH.size, hH.fix, .refl _⟩
  have back : ∀ {ν' : Nm} {H' : Heap} {w' : World}, Holds x' ν' H' w' → Holds x ν' H' w' := fun hH2 => ⟨hH2.ok, hH2.sep, hH2.mine, hH2.ro, hH2.rosep, fun k c hk => by
    rcases hH2.ronew k c hk with h4 | h4
    · exact hH.ronew k c h4
    · exact .inr h4, hH2.gl, hH2.frame, hH2.size, hH2.fix, hH.anc.trans hH2.anc⟩
  have ending : ∀ (todo : List Item) (jump : Option Code) (env : Env) (H' : Heap) (n' : Nat) st pd fn n e qs as bo d, H'.get id = some (.loop st pd fn n e qs as bo d) → K (.v (.bool jump.isNone)) (H'.set id (.loop (if jump.isNone then .ready else .done) jump fn n e qs as bo d)) n' →
      ((todo = [] ∧ jump = none) ∨ (∃ k, todo = .code .ret :: k ∧ jump = some .ret) ∨ (∃ i k, todo = .code (.exit i) :: k ∧ exitTo i k = none ∧ jump = some (.exit i)) ∨ (∃ i k, todo = .code (.goto i) :: k ∧ gotoIn i k = none ∧ jump = some (.goto i))) → Sat κ' x' ⟨todo, env, H', n', []⟩ := by
    intro todo jump env H' n' st pd fn n e qs as bo d hget hK htodo ν' w' a hn' hH2 hE2 hD2
    obtain ⟨_, _, tm', hl', _⟩ := hH2.ok _ _ hget
    have hbid : ν'.blk id = ν.blk id := hH2.anc.2.1 id hlt
    have hset := hH2.setLoop hget hl' (if jump.isNone then .ready else .done) jump
    rw [hbid] at hl' hset
    have hfr : fr κ'.b a todo = fr b ⟨a.tmps, []⟩ todo := by
      obtain ⟨tmps, ds⟩ := a
      have : ds = [] := by simpa using hD2.2
      subst this; rfl
    show Lands P0 (lone (fr κ'.b a todo) (c :: cs) w') _
    rw [hfr]
    refine lands_endRound (b := b) rfl rfl hl' htodo ?_
    have hn' : ν'.nx = n' := hn'
    exact ⟨ν', _, _, hH2.anc, back hset, bool_rel _, by rw [hn']; exact hK⟩
  have rnd : Rnd κ' x' P0 x.gl nt id nx K := by
    refine ⟨rfl, rfl, rfl, hn, fun k env H' n' dfs pd fn n e qs as bo d hget hs => ?_, fun env H' n' st pd fn n e qs as bo d hget hK => ?_, fun k env H' n' st pd fn n e qs as bo d hget hK => ?_, fun i k env H' n' st pd fn n e qs as bo d hi hget hK => ?_, fun i k env H' n' st pd fn n e qs as bo d hi hget hK => ?_⟩
    · intro ν' w' a hn' hH2 hE2 hD2
      obtain ⟨_, _, tm', hl', _⟩ := hH2.ok _ _ hget
      have hbid : ν'.blk id = ν.blk id := hH2.anc.2.1 id hlt
      have hset := hH2.setLoop hget hl' .busy pd
      rw [hbid] at hl' hset
      exact lands_beginRound (b := b) rfl hl' rfl (hs ν' _ a hn' hset hE2 hD2)
    · exact ending [] none env H' n' st pd fn n e qs as bo d hget hK (.inl ⟨rfl, rfl⟩)
    · exact ending _ (some .ret) env H' n' st pd fn n e qs as bo d hget hK (.inr (.inl ⟨k, rfl, rfl⟩))
    · exact ending _ (some (.exit i)) env H' n' st pd fn n e qs as bo d hget hK (.inr (.inr (.inl ⟨i, k, rfl, hi, rfl⟩)))
    · exact ending _ (some (.goto i)) env H' n' st pd fn n e qs as bo d hget hK (.inr (.inr (.inr ⟨i, k, rfl, hi, rfl⟩)))
  have key := h κ' x' rnd ν w ⟨(ps.zip vs.toArray).foldl (fun tmps (t, a) => tmps.setIfInBounds t a) tm, []⟩ hn hH' ?_ ⟨by simp, by simp⟩
  · exact key
  · have hall : ∀ t ∈ ps.toList, t < nt := fun t ht => by
      have := (List.all_eq_true.1 hb) t ht
      exact Nat.lt_of_succ_le (by simpa [Nat.blt] using this)
    have := bindP_rel (ps := ps.toList) hall hE hvs (by simp [hps, hvs.length])
    have e1 : (ps.zip vs.toArray).foldl (fun tmps (t, a) => tmps.setIfInBounds t a) tm = (ps.toList.zip vs).foldl (fun tmps (p : Tmp × Value) => tmps.setIfInBounds p.1 p.2) tm := by
      rw [← Array.foldl_toList, Array.toList_zip]
    rw [← e1] at this
    exact this
end Go.Sy
namespace Go.Sy
open Go
set_option linter.unusedSimpArgs false
set_option linter.unusedVariables false

/-- A loop over a function. -/
theorem Ends.range {κ : Kx} {x : Ctx} {P : Program} {gl : Gl} {nt m : Nat} {res : List ResultVar} {R : SV → Heap → Nat → Prop} (e : Ends κ x P gl nt res m R) {f : Operand} {ps : Array Tmp} {asg body : Code} {k : List Item} {env : Env} {H : Heap} {nx : Nat} {dfs : List Nat} {g : SV} (hf : ev gl env f = some g)
    (h : ∀ fn, Does P x g [.yl (nx + 1)] (nx + 2) ((nx + 1, .loop .ready none fn nt env ps asg body nx) :: (nx, .obj (.deferred (some []))) :: H) (fun _ H' n' => ∃ st pd fn nt e qs as bo d, H'.get (nx + 1) = some (.loop st pd fn nt e qs as bo d) ∧ st ≠ .busy ∧
      Sat κ x ⟨(pd.map Item.code).toList ++ k, env, H'.drop (nx + 1), n', nx :: dfs⟩)) : Sat κ x ⟨.code (.rangeFunc f ps asg body) :: k, env, H, nx, dfs⟩ := by
  obtain ⟨rfl, rfl, rfl, _, hro, _, _⟩ := e
  exact Sat.rangeFunc hro hf (h κ.b.fn)

/-- A statement that draws its order. -/
theorem Ends.draw {κ : Kx} {x : Ctx} {P : Program} {gl : Gl} {nt m : Nat} {res : List ResultVar} {R : SV → Heap → Nat → Prop} (e : Ends κ x P gl nt res m R) {ops : Array Oper} {id : Nat} {k : List Item} {env : Env} {H : Heap} {nx : Nat} {dfs : List Nat} (p : Plan) (qn : List Nat) (hB : quietB ops qn = true) (hp : planB ops qn p [] (Array.replicate ops.size false) = true) (hlen : p.len = ops.size)
    (h : drawP κ x P gl nt ops dfs (fun env H nx => Sat κ x ⟨k, env, H, nx, dfs⟩) p env H nx) : Sat κ x ⟨.code (.region id ops true) :: k, env, H, nx, dfs⟩ := by
  obtain ⟨rfl, rfl, rfl, _, hro, _, _⟩ := e
  exact Sat.draw p qn hB hp hlen h
theorem Rnd.draw {κ : Kx} {x : Ctx} {P : Program} {gl : Gl} {nt i m : Nat} {K : SV → Heap → Nat → Prop} (e : Rnd κ x P gl nt i m K) {ops : Array Oper} {id : Nat} {k : List Item} {env : Env} {H : Heap} {nx : Nat} {dfs : List Nat} (p : Plan) (qn : List Nat) (hB : quietB ops qn = true) (hp : planB ops qn p [] (Array.replicate ops.size false) = true) (hlen : p.len = ops.size)
    (h : drawP κ x P gl nt ops dfs (fun env H nx => Sat κ x ⟨k, env, H, nx, dfs⟩) p env H nx) : Sat κ x ⟨.code (.region id ops true) :: k, env, H, nx, dfs⟩ := by
  obtain ⟨rfl, rfl, rfl, _, _, _, _, _, _⟩ := e
  exact Sat.draw p qn hB hp hlen h
theorem Does.mono {P : Program} {x : Ctx} {f : SV} {args : List SV} {nx : Nat} {H : Heap} {K K' : SV → Heap → Nat → Prop} (h : Does P x f args nx H K) (hk : ∀ s H n, K s H n → K' s H n) : Does P x f args nx H K' :=
  fun ν w fv vs h1 h2 h3 h4 => (h ν w fv vs h1 h2 h3 h4).mono fun _ _ ⟨ν', H', s, q1, q2, q3, q4⟩ => ⟨ν', H', s, q1, q2, q3, hk _ _ _ q4⟩
theorem DCall.of {κ : Kx} {x : Ctx} {g : SV} {as : List SV} {dst : Option Nat} {H : Heap} {nx : Nat} {dfs : List Nat} {K : SV → Heap → Nat → Prop} (h : Does κ.P x g as nx H K) : DCall κ x g as dst H nx dfs K :=
  fun _ _ hK => h.mono hK

/-- A result alone. -/
abbrev Ret (s : SV) : SV → Heap → Nat → Prop := fun s' H n => s' = s ∧ H = [] ∧ n = 0
/-- A slice of new elements. -/
abbrev RetRow (T : TypeId) (sz : Nat) (xs : List (List SV)) : SV → Heap → Nat → Prop := fun s H n => ∃ cap, xs.length ≤ cap ∧ s = .sl 0 sz 0 xs.length cap ∧ H = [(0, .row sz cap T xs)] ∧ n = 1
theorem Post.ret {s : SV} {H : Heap} {nx : Nat} (hs : s.closed) : Post 0 (Ret s) s H nx := .pure hs ⟨rfl, rfl, rfl⟩
theorem Post.row {T : TypeId} {sz cap len : Nat} {xs : List (List SV)} {H : Heap} {nx i : Nat} (hi : H.get i = some (.row sz cap T xs)) (hl : len = xs.length) : Post 0 (RetRow T sz xs) (.sl i sz 0 len cap) H nx := by
  intro x ν ν' w v hx hm hn hg hH hv
  have hc : xs.length ≤ cap := (hH.ok i _ hi).2.1
  exact Post.via 1 (fun _ => i) (.sl 0 sz 0 len cap) [(0, .row sz cap T xs)] ⟨cap, hc, by rw [hl], rfl, rfl⟩ rfl (Nat.lt_succ_self 0) (fun a b _ _ _ => by omega) (.cons (Nat.lt_succ_self 0) trivial hi .nil) ⟨Nat.zero_le _, fun a h => absurd h (Nat.not_lt_zero a)⟩ x ν ν' w v hx hm hn hg hH hv
theorem Does.ret {P0 : Program} {x : Ctx} {f : SV} {args : List SV} {nx : Nat} {H : Heap} {K : SV → Heap → Nat → Prop} {P : Program} {gl : Gl} (hP : P0 = P) (hgl : x.gl = gl) {s : SV} (h : Con P gl f args 0 [] (Ret s)) (hc : f.closed ∧ SV.bndL 0 args ∧ s.closed)
    (next : K s H nx) : Does P0 x f args nx H K :=
  Does.pure hP hgl h hc.1 hc.2.1 fun s' H' n' ⟨h1, h2, h3⟩ => by subst h1 h2 h3; exact ⟨⟨hc.2.2, rfl, rfl⟩, next⟩
theorem Does.row {P0 : Program} {x : Ctx} {f : SV} {args : List SV} {nx : Nat} {H : Heap} {K : SV → Heap → Nat → Prop} {P : Program} {gl : Gl} (hP : P0 = P) (hgl : x.gl = gl) {T : TypeId} {sz : Nat} {xs : List (List SV)} (h : Con P gl f args 0 [] (RetRow T sz xs)) (hc : f.closed ∧ SV.bndL 0 args)
    (next : ∀ cap, xs.length ≤ cap → K (.sl nx sz 0 xs.length cap) ((nx, .row sz cap T xs) :: H) (nx + 1)) : Does P0 x f args nx H K := by
  have hren : ∀ l : List SV, SV.bndL 0 l → ∀ σ, l = SV.renL σ l := fun l hl σ => by rw [SV.renL_bnd (σ := σ) (τ := id) (m := 0) (fun i hi => absurd hi (Nat.not_lt_zero i)) l hl, SV.renL_id]
  refine Does.fn hP hgl 0 id [] f args [] h (SV.ren_closed hc.1 _).symm (hren _ hc.2 _) hc.1 hc.2 (fun i hi => absurd hi (Nat.not_lt_zero i)) (fun i j hi => absurd hi (Nat.not_lt_zero i)) (fun i b hb => by simp [Heap.get] at hb) ?_
  rintro s' H' n' ⟨cap, hc, rfl, rfl, rfl⟩
  refine ⟨.cons (by simp) .nil, fun _ => ?_⟩
  rw [without_nil]
  exact next cap hc
/-- A slice of new elements that nobody writes. -/
theorem Con.toRd {P : Program} {gl : Gl} {f : SV} {args : List SV} {T : TypeId} {sz : Nat} {xs : List (List SV)} (h : Con P gl f args 0 [] (RetRow T sz xs)) : Con P gl f args 0 [] (Ret (.rd sz xs)) := by
  intro ν w fv vs h1 h2 h3 h4
  refine (h ν w fv vs h1 h2 h3 h4).mono ?_
  rintro v w' ⟨ν', s, H', ⟨cap, hc, rfl, rfl, h5⟩, hg, hH, hs⟩
  obtain ⟨_, hnc, _⟩ := hH.ok 0 _ rfl
  have hp : lendP [(0, Blk.row sz cap T xs)] [0] (.sl 0 sz 0 xs.length cap) := by
    simp only [lendP, List.mem_singleton, if_true, Heap.get, lendSlP]
    exact ⟨by omega, hnc, fun h => by omega⟩
  have e1 : lendS [(0, Blk.row sz cap T xs)] [0] (.sl 0 sz 0 xs.length cap) = .rd sz xs := by
    simp [lendS, lendSl, Heap.get]
  have := Post.frz (m := 0) (Q := Ret (.rd sz xs)) (nx := ν'.nx) [0] hp (by rw [e1]; exact .ret trivial)
  exact this (ctxOf gl ν [] w) ν ν' w' v rfl h1 rfl hg hH hs

/-- A block gets a new name. -/
theorem Sat.fresh {κ : Kx} {x : Ctx} {k : List Item} {env : Env} {H : Heap} {nx : Nat} {dfs : List Nat} (i : Nat) (hi : i < nx) (hs : Once H) (h : Sat κ x ⟨k, renE (fun j => if j = i then nx else j) env, renH (fun j => if j = i then nx else j) H, nx + 1, dfs.map fun j => if j = i then nx else j⟩) : Sat κ x ⟨k, env, H, nx, dfs⟩ := by
  intro ν w a hn hH hE hD
  have hn : ν.nx = nx := hn
  subst hn
  have hm : Maps ν (ν.name (ν.blk i)) (fun j => if j = i then ν.nx else j) := by
    refine ⟨fun j hj => ?_, fun _ _ h => h⟩
    by_cases e : j = i
    · subst e; simp only [if_true]; exact ⟨Nat.lt_succ_self _, Nm.name_blk _ _⟩
    · simp only [e, if_false]; exact ⟨Nat.lt_succ_of_lt hj, Nm.name_ne _ _ _ hj⟩
  refine h (ν.name (ν.blk i)) w a rfl ?_ (hE.maps hm) ?_
  · have hg : ∀ j b, (renH (fun j => if j = i then ν.nx else j) H).get j = some b → ∃ q c, H.get q = some c ∧ q < ν.nx ∧ j = (if q = i then ν.nx else q) ∧ b = c.ren (fun j => if j = i then ν.nx else j) := by
      intro j b hb
      obtain ⟨q, c, h1, h2, h3⟩ := renH_get hb
      have h4 := hs q c h1
      exact ⟨q, c, h4, hH.lt h4, h2, h3⟩
    refine ⟨fun j b hb => ?_, fun j b j' b' hb hb' hne he he' => ?_, fun j b hb he => ?_, hH.ro, fun j b hb he => ?_, hH.ronew, hH.gl, hH.frame, hH.size, hH.fix, hH.anc.trans (.name _ _)⟩
    · obtain ⟨q, c, h1, h2, rfl, rfl⟩ := hg j b hb
      exact (hH.ok q c h1).maps hm
    · obtain ⟨q, c, h1, h2, rfl, rfl⟩ := hg j b hb
      obtain ⟨q', c', h1', h2', rfl, rfl⟩ := hg j' b' hb'
      have := (hm.1 q h2).2
      simp only at this
      rw [this]
      have := (hm.1 q' h2').2
      simp only at this
      rw [this]
      exact hH.sep q c q' c' h1 h1' (fun e => hne (by rw [e])) (ren_real.1 he) (ren_real.1 he')
    · obtain ⟨q, c, h1, h2, rfl, rfl⟩ := hg j b hb
      have := (hm.1 q h2).2
      simp only at this
      rw [this]; exact hH.mine q c h1 (ren_real.1 he)
    · obtain ⟨q, c, h1, h2, rfl, rfl⟩ := hg j b hb
      have := (hm.1 q h2).2
      simp only at this
      rw [this]; exact hH.rosep q c h1 (ren_real.1 he)
  · refine ⟨fun j hj => ?_, ?_⟩
    · simp only [List.mem_map] at hj
      obtain ⟨q, hq, rfl⟩ := hj
      exact (hm.1 q (hD.1 q hq)).1
    · rw [hD.2, List.map_map]
      apply List.map_congr_left
      intro q hq
      have := (hm.1 q (hD.1 q hq)).2
      simp only at this
      simp only [Function.comp, this]

/-- A LAW: called with these it returns true, and the world has only grown. -/
def Law (P : Program) (gl : Gl) (g : FuncId) (args : List SV) : Prop := ∀ (ν : Nm) (w : World) (vs : List Value), ν.nx = 0 → Holds (ctxOf gl ν [] w) ν [] w → RelL ν args vs →
  Calls P g vs.toArray w fun e w' => e = .returned (.bool true) ∧ Ext w w'
theorem Law.of {P : Program} {gl : Gl} {g : FuncId} {fn : Func} {c : Code} {args : List SV} {nt : Nat} {res : List ResultVar}
    (hm : P.follows .mixedOrders = true) (hf : P.funcs[g]? = some fn) (hb : fn.body = some c) (hnt : fn.ntmps = nt) (hres : fn.results.toList = res) (hlen : Nat.ble args.length nt = true)
    (h : ∀ κ x, Ends κ x P gl nt res 0 (fun s _ _ => s = .v (.bool true)) → Sat κ x ⟨[.code c], envOf 0 args, [], 0, []⟩) : Law P gl g args := by
  intro ν w vs hn hH hvs
  have := calls_of (R := fun s _ _ => s = .v (.bool true)) hm hf hb hnt hres (by rw [hvs.length]; exact hlen) hH hvs rfl (fun κ e => by
    rw [hn] at e ⊢
    exact h κ _ e)
  refine this.mono ?_
  rintro e w' ⟨v, rfl, ν', s, H', rfl, hgr, hH', hv⟩
  simp only [Rel] at hv
  subst hv
  exact ⟨rfl, hH'.fix, hH'.size, fun k hk => hH'.frame k hk (fun ⟨i, b, hb, _⟩ => by simp [Heap.get] at hb)⟩

/- lists -/
theorem getD_map' {α β : Type} (f : α → β) (l : List α) (i : Nat) (d : β) (e : α) (h : i < l.length) : (l.map f).getD i d = f (l.getD i e) := by simp [List.getD, h]
theorem getD_map {α : Type} [Inhabited α] (f : α → List SV) (l : List α) (i : Nat) (h : i < l.length) : (l.map f).getD i [] = f (l.getD i default) := getD_map' f l i _ _ h
theorem getD_append_left' {α : Type} (l m : List α) (i : Nat) (d : α) (h : i < l.length) : (l ++ m).getD i d = l.getD i d := by simp [List.getD, List.getElem?_append_left h]
theorem getD_append_right' {α : Type} (l m : List α) (i : Nat) (d : α) (h : l.length ≤ i) : (l ++ m).getD i d = m.getD (i - l.length) d := by simp [List.getD, List.getElem?_append_right h]
/-- A number's cell, a bool's cell. -/
def eI (k : IntKind) (n : Int) : List SV := [.v (.int k n)]
def eB (b : Bool) : List SV := [.v (.bool b)]
end Go.Sy
namespace Go.Sy
open Go
set_option linter.unusedSimpArgs false
set_option linter.unusedVariables false

theorem drawP_fin (κ : Kx) (x : Ctx) (P : Program) (gl : Gl) (nt : Nat) (ops : Array Oper) (dfs : List Nat) (fin : Env → Heap → Nat → Prop) (env : Env) (H : Heap) (nx : Nat) : drawP κ x P gl nt ops dfs fin .fin env H nx = fin env H nx := rfl
theorem drawP_q (κ : Kx) (x : Ctx) (P : Program) (gl : Gl) (nt : Nat) (ops : Array Oper) (dfs : List Nat) (fin : Env → Heap → Nat → Prop) (env : Env) (H : Heap) (nx i : Nat) (p : Plan) : drawP κ x P gl nt ops dfs fin (.q i p) env H nx =
    match ops[i]? with
    | none => False
    | some o => dstOK nt o.dst ∧ guardP ops env o (dq P gl o env H nx (drawP κ x P gl nt ops dfs fin p)) := rfl
theorem drawP_l (κ : Kx) (x : Ctx) (P : Program) (gl : Gl) (nt : Nat) (ops : Array Oper) (dfs : List Nat) (fin : Env → Heap → Nat → Prop) (env : Env) (H : Heap) (nx i : Nat) (rs : List Nat) (p : Plan) : drawP κ x P gl nt ops dfs fin (.l i rs p) env H nx =
    match ops[i]? with
    | none => False
    | some o => dstOK nt o.dst ∧ guardP ops env o (dl κ x P gl ops dfs rs o env H nx (drawP κ x P gl nt ops dfs fin p)) := rfl
theorem exec_zero (P : Program) (gl : Gl) (nt : Nat) (c : Cfg) : exec P gl nt 0 c = .stop c := rfl
/-- A result, and what the block is that was handed in. -/
abbrev RetK (s : SV) (B : Blk) : SV → Heap → Nat → Prop := fun s' H n => s' = s ∧ H = [(0, B)] ∧ n = 1
def Blk.still (b : Blk) : Prop := ∀ σ, b.ren σ = b
theorem Blk.still_row {sz cap : Nat} {T : TypeId} {xs : List (List SV)} : (Blk.row sz cap T xs).still := fun _ => rfl
theorem SV.renL_closed {l : List SV} (h : SV.bndL 0 l) (σ : Nat → Nat) : SV.renL σ l = l := by
  rw [SV.renL_bnd (σ := σ) (τ := id) (m := 0) (fun i hi => absurd hi (Nat.not_lt_zero i)) l h, SV.renL_id]
theorem Blk.still_own {cells : List SV} {T : TypeId} (h : SV.bndL 0 cells) : (Blk.own cells T).still := fun σ => by
  simp only [Blk.ren, SV.renL_closed h]

theorem Post.keep {s : SV} {B : Blk} {H : Heap} {nx : Nat} (hs : s.closed) (hB : B.still) (hb : B.bnd 1) (h : H.get 0 = some B) : Post 1 (RetK s B) s H nx :=
  .via 1 id s [(0, B)] ⟨rfl, rfl, rfl⟩ (SV.ren_id s).symm (SV.bnd_mono (Nat.zero_le 1) s hs) (fun i j _ _ e => e) (.cons (Nat.lt_succ_self 0) hb (by rw [hB]; exact h) .nil) ⟨Nat.le_refl _, fun i _ => rfl⟩

/-- A call by contract that changes one block. -/
theorem Does.keep {P0 : Program} {x : Ctx} {f : SV} {args : List SV} {nx : Nat} {H : Heap} {K : SV → Heap → Nat → Prop} {P : Program} {gl : Gl} (hP : P0 = P) (hgl : x.gl = gl) (i : Nat) (args0 : List SV) {s : SV} {B B' : Blk}
    (h : Con P gl f args0 1 [(0, B)] (RetK s B')) (hargs : args = SV.renL (fun _ => i) args0) (hc : f.closed ∧ SV.bndL 1 args0 ∧ s.closed) (hB : B.still ∧ B.bnd 1 ∧ B'.still) (hi : H.get i = some B) (hlt : i < nx)
    (next : K s ((i, B') :: without [i] H) nx) : Does P0 x f args nx H K := by
  refine Does.fn hP hgl 1 (fun _ => i) [i] f args0 [(0, B)] h (SV.ren_closed hc.1 _).symm hargs (SV.bnd_mono (Nat.zero_le 1) _ hc.1) hc.2.1 (fun _ _ => hlt) (fun a b ha hb _ => by omega) ?_ ?_
  · intro j b hj
    simp only [Heap.get] at hj
    split at hj
    · rename_i e
      obtain rfl : B = b := Option.some.inj hj
      subst e
      exact ⟨Nat.lt_succ_self _, hB.2.1, by simp, by rw [hB.1]; exact hi⟩
    · cases hj
  · rintro s' H' n' ⟨rfl, rfl, rfl⟩
    refine ⟨.cons (by simp) .nil, fun _ => ?_⟩
    rw [SV.ren_closed hc.2.2]
    simp only [renH, hB.2.2 _, tau, Nat.zero_lt_one, if_true, List.cons_append, List.nil_append]
    exact next

theorem get_without {l : List Nat} {j : Nat} (hj : j ∉ l) : ∀ {H : Heap} {b : Blk}, H.get j = some b → (without l H).get j = some b
  | [], b, h => h
  | (i, c) :: H, b, h => by
    simp only [Heap.get] at h
    simp only [without]
    split at h
    · rename_i e
      rw [if_neg (by rw [e]; exact hj)]
      simpa [Heap.get, e] using h
    · rename_i e
      split
      · exact get_without hj h
      · simp only [Heap.get, e, if_false]; exact get_without hj h
/-- What a block's cells name is written by nobody from now on. -/
theorem Holds.frzOwn {x : Ctx} {ν : Nm} {H : Heap} {w : World} {V : List Nat} {L : Nat → Option (Array Value)} {i : Nat} {cells : List SV} {T : TypeId} (hH : Holds x ν H w) (hL : lentBy ν H w V L) (hi : H.get i = some (.own cells T)) (hV : i ∉ V) (hp : lendPL H V cells) :
    Holds x (ν.lend L) ((without V H).set i (.own (lendL H V cells) T)) w := by
  have h1 := hH.freeze hL (H' := without V H) fun i b hb => without_get hb
  refine h1.write (get_without hV hi) trivial (fun _ _ => rfl) rfl (.refl _) ?_
  obtain ⟨q1, c, q2, q3⟩ := hH.ok i _ hi
  exact ⟨q1, c, q2, lendL_rel hH hL _ _ hp q3⟩
theorem Sat.frzOwn {κ : Kx} {x : Ctx} {k : List Item} {env : Env} {H : Heap} {nx : Nat} {dfs : List Nat} (V : List Nat) (i : Nat) (cells : List SV) (T : TypeId) (hi : H.get i = some (.own cells T)) (hV : i ∉ V) (hp : lendPL H V cells)
    (h : Sat κ x ⟨k, env, (without V H).set i (.own (lendL H V cells) T), nx, dfs⟩) : Sat κ x ⟨k, env, H, nx, dfs⟩ := by
  intro ν w a hn hH hE hD
  obtain ⟨L, hL⟩ := lentBy_ex ν H w V
  exact h (ν.lend L) w a hn (hH.frzOwn hL hi hV hp) (hE.grows (.lend ν L)) (hD.grows (.lend ν L))
theorem Post.frzOwn {m : Nat} {Q : SV → Heap → Nat → Prop} {s : SV} {H : Heap} {nx : Nat} (V : List Nat) (i : Nat) (cells : List SV) (T : TypeId) (hi : H.get i = some (.own cells T)) (hV : i ∉ V) (hp : lendPL H V cells)
    (h : Post m Q s ((without V H).set i (.own (lendL H V cells) T)) nx) : Post m Q s H nx := by
  intro x ν ν' w v hx hm hn hg hH hv
  obtain ⟨L, hL⟩ := lentBy_ex ν' H w V
  exact h x ν (ν'.lend L) w v hx hm hn (hg.trans (.lend ν' L)) (hH.frzOwn hL hi hV hp) (hv.grows (.lend ν' L))
/-- A new variable. -/
abbrev RetN (B : Blk) : SV → Heap → Nat → Prop := fun s H n => s = .ptr 0 0 0 0 ∧ H = [(0, B)] ∧ n = 1
theorem Does.new {P0 : Program} {x : Ctx} {f : SV} {args : List SV} {nx : Nat} {H : Heap} {K : SV → Heap → Nat → Prop} {P : Program} {gl : Gl} (hP : P0 = P) (hgl : x.gl = gl) {B : Blk} (h : Con P gl f args 0 [] (RetN B)) (hc : f.closed ∧ SV.bndL 0 args) (hB : B.still)
    (next : K (.ptr nx 0 0 0) ((nx, B) :: H) (nx + 1)) : Does P0 x f args nx H K := by
  refine Does.fn hP hgl 0 id [] f args [] h (SV.ren_closed hc.1 _).symm (SV.renL_closed hc.2 _).symm hc.1 hc.2 (fun i hi => absurd hi (Nat.not_lt_zero i)) (fun i j hi => absurd hi (Nat.not_lt_zero i)) (fun i b hb => by simp [Heap.get] at hb) ?_
  rintro s' H' n' ⟨rfl, rfl, rfl⟩
  refine ⟨.cons (by simp) .nil, fun _ => ?_⟩
  rw [without_nil]
  simp only [renH, hB _]
  exact next
/-- A row is no longer than its room. -/
theorem Sat.room {κ : Kx} {x : Ctx} {k : List Item} {env : Env} {H : Heap} {nx : Nat} {dfs : List Nat} (i : Nat) {sz cap : Nat} {T : TypeId} {xs : List (List SV)} (hi : H.get i = some (.row sz cap T xs))
    (h : xs.length ≤ cap → Sat κ x ⟨k, env, H, nx, dfs⟩) : Sat κ x ⟨k, env, H, nx, dfs⟩ :=
  fun ν w a hn hH hE hD => h (hH.ok i _ hi).2.1 ν w a hn hH hE hD
/-- Where ways meet: what is behind it is shown once. -/
theorem Sat.join {α : Type} {κ : Kx} {x : Ctx} {T : List Item} {nx : Nat} {dfs : List Nat} {G : Prop} (C : α → Prop) (E : α → Env × Heap) (j : (∀ a, C a → Sat κ x ⟨T, (E a).1, (E a).2, nx, dfs⟩) → G) (m : ∀ a, C a → Sat κ x ⟨T, (E a).1, (E a).2, nx, dfs⟩) : G := j m
/-- A nil slice counts as one of nothing that nobody writes. -/
theorem nil_rd {ν : Nm} {sz : Nat} {v : Value} (h : Rel ν (.v (.slice none 0 0)) v) : Rel ν (.rd sz []) v := by
  simp only [Rel] at h
  subst h
  exact ⟨none, 0, [], rfl, Nat.le_refl _, by simp, rfl, by simp, by simp⟩
theorem Sat.nilRd {κ : Kx} {x : Ctx} {k : List Item} {env : Env} {H : Heap} {nx : Nat} {dfs : List Nat} (t sz : Nat) (ht : env.get t = some (.v (.slice none 0 0))) (h : Sat κ x ⟨k, (t, .rd sz []) :: env, H, nx, dfs⟩) : Sat κ x ⟨k, env, H, nx, dfs⟩ := by
  intro ν w a hn hH hE hD
  obtain ⟨y, h1, h2⟩ := hE.2 t _ ht
  exact h ν w a hn hH (hE.know h1 (nil_rd h2)) hD
theorem Does.rep {P0 : Program} {x : Ctx} {f : SV} {args : List SV} {nx : Nat} {H : Heap} {K : SV → Heap → Nat → Prop} (args' : List SV) (hr : ∀ ν vs, RelL ν args vs → RelL ν args' vs) (h : Does P0 x f args' nx H K) : Does P0 x f args nx H K :=
  fun ν w fv vs hn hH hfv hvs => h ν w fv vs hn hH hfv (hr ν vs hvs)
theorem RelL.keep {ν : Nm} {s : SV} {l l' : List SV} (h : ∀ vs, RelL ν l vs → RelL ν l' vs) : ∀ vs, RelL ν (s :: l) vs → RelL ν (s :: l') vs := fun vs ⟨y, ys, e, h1, h2⟩ => ⟨y, ys, e, h1, h ys h2⟩
theorem RelL.nilrd {ν : Nm} {sz : Nat} {l l' : List SV} (h : ∀ vs, RelL ν l vs → RelL ν l' vs) : ∀ vs, RelL ν (.v (.slice none 0 0) :: l) vs → RelL ν (.rd sz [] :: l') vs := fun vs ⟨y, ys, e, h1, h2⟩ => ⟨y, ys, e, nil_rd h1, h ys h2⟩
/-- At a call: what it is handed is written by nobody from now on. -/
theorem Does.frz {P0 : Program} {x : Ctx} {f : SV} {args : List SV} {nx : Nat} {H : Heap} {K : SV → Heap → Nat → Prop} (V : List Nat) (hf : lendP H V f ∧ lendS H V f = f) (hp : lendPL H V args)
    (h : Does P0 x f (lendL H V args) nx (without V H) K) : Does P0 x f args nx H K := by
  intro ν w fv vs hn hH hfv hvs
  obtain ⟨L, hL⟩ := lentBy_ex ν H w V
  have h1 := lendS_rel hH hL f fv hf.1 hfv
  rw [hf.2] at h1
  refine (h (ν.lend L) w fv vs hn (hH.freeze hL fun i b hb => without_get hb) h1 (lendL_rel hH hL _ _ hp hvs)).mono ?_
  rintro v w' ⟨ν', H', s, q1, q2, q3, q4⟩
  exact ⟨ν', H', s, (Grows.lend ν L).trans q1, q2, q3, q4⟩
end Go.Sy

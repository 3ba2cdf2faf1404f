/- Loops over functions. No condition. -/
import Derived.Test.YtmieikflcolbaaaSyT
namespace Go.Sy
open Go
set_option linter.unusedSimpArgs false
set_option linter.unusedVariables false
section
variable {P : Program} {b : Frame} {a : Act} {k : List Item} {cs : List Frame} {w : World} {T : Machine → Prop}
theorem lands_rangeFunc {f : Operand} {ps : Array Tmp} {asg body : Code} {l : Nat} {mark : List Deferred} {w1 : World} {R : Value → World → Prop} (hk : b.kind ≠ .early)
    (henter : (Instr.enterLoop b.fn a.tmps ps asg body b.roundOf).run P w = .ok (l, mark) w1) (hc : CallsV P (a.eval f) #[.func (.yield l) #[] #[]] w1 R)
    (h : ∀ v w', R v w' → Lands P (lone (fr b { a with defers := mark ++ a.defers } (.endRangeFunc l :: k)) cs w') T) : Lands P (lone (fr b a (.code (.rangeFunc f ps asg body) :: k)) cs w) T := by
  obtain ⟨v, w', frame, callers, w₁, hR, hs, hsteps⟩ := hc { fr b a (.inRangeFunc l :: k) with defers := mark ++ a.defers } cs (by simp [fr]) (by simp [fr]) hk
  refine .step (m₁ := lone frame callers w₁) (step_lone_go ?_) (.steps hsteps ?_)
  · have he : ∀ (x : Frame), x.tmps = a.tmps → x.eval = a.eval := fun x hx => funext fun y => by cases y <;> simp [Frame.eval, Act.eval, hx]
    simp only [fr, stepG, stepG.exec, Sem.runT_eq, henter, GStep.bare_after]
    rw [← hs]
    simp only [fr, resolve]
    rw [he _ rfl]
    have e1 : Array.map a.eval #[Operand.const (Value.func (Fn.yield l) #[] #[])] = #[Value.func (Fn.yield l) #[] #[]] := by simp [Act.eval]
    rw [e1]
  · exact h v w' hR
theorem lands_endRangeFunc {l : Nat} {r : Loop} (hr : w.heap[l]? = some (.loop r)) (hst : r.state ≠ .busy)
    (h : Lands P (lone (fr b a ((r.pending.map Item.code).toList ++ k)) cs { w with heap := w.heap.setIfInBounds l (.loop { r with state := .exhausted }) }) T) : Lands P (lone (fr b a (.endRangeFunc l :: k)) cs w) T := by
  refine .step (step_lone_go ?_) h
  have hrun : (Instr.endLoop l).run P w = .ok r.pending { w with heap := w.heap.setIfInBounds l (.loop { r with state := .exhausted }) } := by
    simp [Instr.endLoop, Instr.getLoop, getObj, setObj, Sem.run, hr, hst]
  simp [stepG, stepG.exec, fr, Sem.runT_eq, hrun]
theorem lands_beginRound {l : Nat} {r : Loop} (hb : b.roundOf = some l) (hr : w.heap[l]? = some (.loop r)) (hst : r.state = .ready)
    (h : Lands P (lone (fr b a k) cs { w with heap := w.heap.setIfInBounds l (.loop { r with state := .busy }) }) T) : Lands P (lone (fr b a (.beginRound :: k)) cs w) T := by
  refine .step (step_lone_go ?_) h
  have hrun : (Instr.beginRound l).run P w = .ok () { w with heap := w.heap.setIfInBounds l (.loop { r with state := .busy }) } := by
    simp [Instr.beginRound, Instr.getLoop, getObj, setObj, Sem.run, hr, hst]
  simp [stepG, stepG.exec, stepG.apply, fr, Sem.runT_eq, hrun, hb, Frame.finish]
def RBack (l : Nat) (c : Frame) (cs : List Frame) (R : Value → World → Prop) (m : Machine) : Prop := ∃ v w', R v w' ∧ m = lone (c.finish v) cs w'
theorem lands_endRound {l : Nat} {r : Loop} {jump : Option Code} {c : Frame} {R : Value → World → Prop} {todo : List Item} (hb : b.roundOf = some l) (hkn : b.kind = .normal) (hr : w.heap[l]? = some (.loop r))
    (htodo : (todo = [] ∧ jump = none) ∨ (∃ k, todo = .code .ret :: k ∧ jump = some .ret) ∨ (∃ i k, todo = .code (.exit i) :: k ∧ exitTo i k = none ∧ jump = some (.exit i)) ∨ (∃ i k, todo = .code (.goto i) :: k ∧ gotoIn i k = none ∧ jump = some (.goto i)))
    (h : R (.bool jump.isNone) { w with heap := w.heap.setIfInBounds l (.loop { r with state := if jump.isNone then .ready else .done, pending := jump }) }) : Lands P (lone (fr b a todo) (c :: cs) w) (RBack l c cs R) := by
  have hrun : (Instr.endRound l jump).run P w = .ok (.bool jump.isNone) { w with heap := w.heap.setIfInBounds l (.loop { r with state := if jump.isNone then .ready else .done, pending := jump }) } := by
    simp [Instr.endRound, Instr.getLoop, getObj, setObj, Sem.run, hr]
  refine .step (m₁ := lone (c.finish (.bool jump.isNone)) cs { w with heap := w.heap.setIfInBounds l (.loop { r with state := if jump.isNone then .ready else .done, pending := jump }) }) (step_lone_go ?_) (.now ⟨_, _, h, rfl⟩)
  rcases htodo with ⟨rfl, rfl⟩ | ⟨k, rfl, rfl⟩ | ⟨i, k, rfl, hk, rfl⟩ | ⟨i, k, rfl, hk, rfl⟩
  · simp [stepG, stepG.exec, fr, Sem.runT_eq, hb, hrun, doReturn, hkn]
  · simp [stepG, stepG.exec, fr, Sem.runT_eq, hb, hrun, doReturn, hkn]
  · simp [stepG, stepG.exec, fr, Sem.runT_eq, hb, hrun, doReturn, hkn, hk]
  · simp [stepG, stepG.exec, fr, Sem.runT_eq, hb, hrun, doReturn, hkn, hk]
theorem CallsV.round {l : Nat} {r : Loop} {args : Array Value} {R : Value → World → Prop} (hr : w.heap[l]? = some (.loop r)) (hn : args.size = r.params.size)
    (h : ∀ c cs, Lands P (lone (fr { (default : Frame) with fn := r.fn, kind := .normal, roundOf := some l } ⟨(r.params.zip args).foldl (fun tmps (t, a) => tmps.setIfInBounds t a) r.tmps, []⟩ [.code r.assign, .beginRound, .code r.body]) (c :: cs) w) (RBack l c cs R)) :
    CallsV P (.func (.yield l) #[] #[]) args w R := by
  intro c cs h1 h2 h3
  obtain ⟨m, hsteps, v, w', hR, rfl⟩ := h c cs
  refine ⟨v, w', _, c :: cs, w, hR, ?_, hsteps⟩
  have hrun : (do let d ← Deferred.ofValue (.func (.yield l) #[] #[]) args; invoke d.target d.args : Sem Next).run P w = .ok (.round l r.fn ((r.params.zip args).foldl (fun tmps (t, a) => tmps.setIfInBounds t a) r.tmps) r.assign r.body) w := by
    simp [Deferred.ofValue, invoke, Instr.yield, Instr.getLoop, getObj, Sem.run, hr, hn]
  simp only [stepG.apply, Sem.runT_eq, if_true, hrun, GStep.bare_after]
  rfl
end
theorem bool_rel {ν : Nm} (t : Bool) : Rel ν (.v (.bool t)) (.bool t) := rfl
def bindP : List Tmp → List SV → Env → Env
  | t :: ts, s :: ss, env => bindP ts ss ((t, s) :: env)
  | _, _, env => env
theorem bindP_rel {ν : Nm} {nt : Nat} : ∀ {ps : List Tmp} {ss : List SV} {vs : List Value} {env : Env} {tm : Array Value}, (∀ t ∈ ps, t < nt) → RelE ν nt env tm → RelL ν ss vs → ps.length = vs.length →
    RelE ν nt (bindP ps ss env) ((ps.zip vs).foldl (fun tmps (p : Tmp × Value) => tmps.setIfInBounds p.1 p.2) tm)
  | [], ss, vs, env, tm, _, hE, _, _ => by cases ss <;> exact hE
  | t :: ps, [], vs, env, tm, _, _, hv, hl => by simp only [RelL] at hv; subst hv; simp at hl
  | t :: ps, s :: ss, vs, env, tm, hp, hE, hv, hl => by
    simp only [RelL] at hv
    obtain ⟨y, ys, rfl, h1, h2⟩ := hv
    simp only [bindP, List.zip_cons_cons, List.foldl_cons]
    exact bindP_rel (fun u hu => hp u (by simp [hu])) (hE.put (hp t (by simp)) h1) h2 (by simpa using hl)
theorem Sat.rangeFunc {κ : Kx} {x : Ctx} {f : Operand} {ps : Array Tmp} {asg body : Code} {k : List Item} {env : Env} {H : Heap} {nx : Nat} {dfs : List Nat} {g : SV} (hro : κ.b.roundOf = none) (hf : ev x.gl env f = some g)
    (h : Does κ.P x g [.yl (nx + 1)] (nx + 2) ((nx + 1, .loop .ready none κ.b.fn κ.nt env ps asg body nx) :: (nx, .obj (.deferred (some []))) :: H) (fun _ H' n' => ∃ st pd fn nt e qs as bo d, H'.get (nx + 1) = some (.loop st pd fn nt e qs as bo d) ∧ st ≠ .busy ∧
      Sat κ x ⟨(pd.map Item.code).toList ++ k, env, H'.drop (nx + 1), n', nx :: dfs⟩)) : Sat κ x ⟨.code (.rangeFunc f ps asg body) :: k, env, H, nx, dfs⟩ := by
  intro ν w a hn hH hE hD
  have hn : ν.nx = nx := hn
  subst hn
  have hH1 : Holds x (ν.name w.heap.size) ((ν.nx, .obj (.deferred (some []))) :: H) { w with heap := w.heap.push (.deferred (some [])) } :=
    hH.push (o := .deferred (some [])) rfl ⟨rfl, rfl, rfl⟩ ⟨Nat.lt_succ_self _, by simp, by rw [Nm.name_blk]; simp⟩
  have hg1 := Grows.name ν w.heap.size
  have hsz : (w.heap.push (Obj.deferred (some []))).size = w.heap.size + 1 := by simp
  let ν2 := (ν.name w.heap.size).name (w.heap.size + 1)
  have hg2 : Grows (ν.name w.heap.size) ν2 := Grows.name _ _
  let lp : Loop := ⟨.ready, none, κ.b.fn, a.tmps, ps, asg, body, w.heap.size⟩
  have hb0 : ν2.blk ν.nx = w.heap.size := by
    have := hg2.2.1 ν.nx (Nat.lt_succ_self _)
    rw [this, Nm.name_blk]
  have hb1 : ν2.blk (ν.nx + 1) = w.heap.size + 1 := Nm.name_blk (ν.name w.heap.size) (w.heap.size + 1)
  have hH2 : Holds x ν2 ((ν.nx + 1, .loop .ready none κ.b.fn κ.nt env ps asg body ν.nx) :: (ν.nx, .obj (.deferred (some []))) :: H) { w with heap := (w.heap.push (.deferred (some []))).push (.loop lp) } := by
    have e9 : ({ w with heap := w.heap.push (Obj.deferred (some [])) } : World).heap.size = w.heap.size + 1 := hsz
    have hb9 : BlkOK ν2 { w with heap := (w.heap.push (.deferred (some []))).push (.loop lp) } (ν.nx + 1) (.loop .ready none κ.b.fn κ.nt env ps asg body ν.nx) := by
      refine ⟨by show ν.nx + 1 < ν.nx + 1 + 1; omega, by show ν.nx < ν.nx + 1 + 1; omega, a.tmps, ?_, hE.grows (hg1.trans hg2)⟩
      rw [hb1, hb0]
      show ((w.heap.push (Obj.deferred (some []))).push (.loop lp))[w.heap.size + 1]? = some (Obj.loop lp)
      rw [← hsz]; exact Array.getElem?_push_size
    have h9 := hH1.push (w' := { w with heap := (w.heap.push (.deferred (some []))).push (.loop lp) }) (o := .loop lp) (b := .loop .ready none κ.b.fn κ.nt env ps asg body ν.nx) rfl ⟨rfl, rfl, rfl⟩ (by rw [e9]; exact hb9)
    rw [e9] at h9
    exact h9
  have henter : (Instr.enterLoop κ.b.fn a.tmps ps asg body κ.b.roundOf).run κ.P w = .ok (w.heap.size + 1, [{ target := .collected w.heap.size, args := #[] }]) { w with heap := (w.heap.push (.deferred (some []))).push (.loop lp) } := by
    rw [hro]
    simp [Instr.enterLoop, newObj, Sem.run, lp]
    rfl
  have hfv := (ev_rel hH.glOK hE hf).grows (hg1.trans hg2)
  have hc := h ν2 _ _ [.func (.yield (w.heap.size + 1)) #[] #[]] rfl hH2 hfv ⟨_, [], rfl, ⟨by show ν.nx + 1 < ν.nx + 1 + 1; omega, by rw [hb1]⟩, rfl⟩
  refine lands_rangeFunc κ.hk henter hc ?_
  rintro v w' ⟨ν', H', s, hg3, hH3, _, st, pd, fn, nt, e, qs, as, bo, d, hget, hst, hsat⟩
  obtain ⟨_, hd, tm, hl, _⟩ := hH3.ok _ _ hget
  have hb1' : ν'.blk (ν.nx + 1) = w.heap.size + 1 := by
    have := hg3.2.1 (ν.nx + 1) (by show ν.nx + 1 < ν.nx + 1 + 1; omega)
    rw [this]; exact hb1
  rw [hb1'] at hl
  refine lands_endRangeFunc hl hst ?_
  have hH4 : Holds x ν' (H'.drop (ν.nx + 1)) { w' with heap := w'.heap.setIfInBounds (w.heap.size + 1) (.loop ⟨.exhausted, pd, fn, tm, qs, as, bo, ν'.blk d⟩) } := by
    have hlt : w.heap.size + 1 < w'.heap.size := (Array.getElem?_eq_some_iff.1 hl).1
    have h1 : Holds x ν' (H'.set (ν.nx + 1) (.obj (.loop ⟨.exhausted, pd, fn, tm, qs, as, bo, ν'.blk d⟩))) { w' with heap := w'.heap.setIfInBounds (w.heap.size + 1) (.loop ⟨.exhausted, pd, fn, tm, qs, as, bo, ν'.blk d⟩) } :=
      hH3.write hget trivial (fun k hk => by rw [hb1'] at hk; simp [Array.getElem?_setIfInBounds, Ne.symm hk]) (by simp) ⟨rfl, rfl, rfl⟩ ⟨hH3.lt hget, by simp, by rw [hb1']; simp [hlt]⟩
    refine h1.less fun i b hb => ?_
    rw [Heap.get_drop] at hb
    split at hb
    · cases hb
    · rename_i hne
      rw [Heap.get_set, if_neg hne]; exact hb
  refine hsat ν' _ _ rfl hH4 (hE.grows ((hg1.trans hg2).trans hg3)) ?_
  have hD' := hD.grows ((hg1.trans hg2).trans hg3)
  refine ⟨fun i hi => ?_, ?_⟩
  · rcases List.mem_cons.1 hi with rfl | hi
    · exact Nat.lt_of_lt_of_le (show ν.nx < ν.nx + 1 + 1 by omega) hg3.1
    · exact hD'.1 i hi
  · simp only [List.map_cons, List.singleton_append]
    have : ν'.blk ν.nx = w.heap.size := by
      rw [hg3.2.1 ν.nx (by show ν.nx < ν.nx + 1 + 1; omega)]; exact hb0
    rw [this, hD'.2]
structure Rnd (κ : Kx) (x : Ctx) (P : Program) (gl : Gl) (nt : Nat) (id m : Nat) (K : SV → Heap → Nat → Prop) : Prop where
  hP : κ.P = P
  hn : κ.nt = nt
  hgl : x.gl = gl
  hm : x.nm.nx = m
  beg : ∀ (k : List Item) (env : Env) (H : Heap) (nx : Nat) (dfs : List Nat) pd fn n e qs as bo d, H.get id = some (.loop .ready pd fn n e qs as bo d) → Sat κ x ⟨k, env, H.set id (.loop .busy pd fn n e qs as bo d), nx, dfs⟩ → Sat κ x ⟨.beginRound :: k, env, H, nx, dfs⟩
  fin : ∀ (env : Env) (H : Heap) (nx : Nat) st pd fn n e qs as bo d, H.get id = some (.loop st pd fn n e qs as bo d) → K (.v (.bool true)) (H.set id (.loop .ready none fn n e qs as bo d)) nx → Sat κ x ⟨[], env, H, nx, []⟩
  ret : ∀ (k : List Item) (env : Env) (H : Heap) (nx : Nat) st pd fn n e qs as bo d, H.get id = some (.loop st pd fn n e qs as bo d) → K (.v (.bool false)) (H.set id (.loop .done (some .ret) fn n e qs as bo d)) nx → Sat κ x ⟨.code .ret :: k, env, H, nx, []⟩
  exit : ∀ (i : Nat) (k : List Item) (env : Env) (H : Heap) (nx : Nat) st pd fn n e qs as bo d, exitTo i k = none → H.get id = some (.loop st pd fn n e qs as bo d) → K (.v (.bool false)) (H.set id (.loop .done (some (.exit i)) fn n e qs as bo d)) nx → Sat κ x ⟨.code (.exit i) :: k, env, H, nx, []⟩
  goto : ∀ (i : Nat) (k : List Item) (env : Env) (H : Heap) (nx : Nat) st pd fn n e qs as bo d, gotoIn i k = none → H.get id = some (.loop st pd fn n e qs as bo d) → K (.v (.bool false)) (H.set id (.loop .done (some (.goto i)) fn n e qs as bo d)) nx → Sat κ x ⟨.code (.goto i) :: k, env, H, nx, []⟩
theorem Rnd.run {κ : Kx} {x : Ctx} {P : Program} {gl : Gl} {nt id m : Nat} {K : SV → Heap → Nat → Prop} (e : Rnd κ x P gl nt id m K) {c : Cfg} (n : Nat) (h : OutOK κ x (exec P gl nt n c)) : Sat κ x c := by
  obtain ⟨rfl, rfl, rfl, _, _, _, _, _, _⟩ := e
  exact exec_sound n c h
theorem Holds.setLoop {x : Ctx} {ν : Nm} {H : Heap} {w : World} {id : Nat} {st : LoopState} {pd : Option Code} {fn : FuncId} {n : Nat} {e : Env} {qs : Array Tmp} {as bo : Code} {d : Nat} {tm : Array Value} (hH : Holds x ν H w) (hget : H.get id = some (.loop st pd fn n e qs as bo d))
    (hl : w.heap[ν.blk id]? = some (.loop ⟨st, pd, fn, tm, qs, as, bo, ν.blk d⟩)) (st' : LoopState) (pd' : Option Code) :
    Holds x ν (H.set id (.loop st' pd' fn n e qs as bo d)) { w with heap := w.heap.setIfInBounds (ν.blk id) (.loop ⟨st', pd', fn, tm, qs, as, bo, ν.blk d⟩) } := by
  obtain ⟨h0, h1, tm', h2, h3⟩ := hH.ok _ _ hget
  have hlt : ν.blk id < w.heap.size := (Array.getElem?_eq_some_iff.1 hl).1
  have e : tm' = tm := by
    rw [hl] at h2
    simp only [Option.some.injEq, Obj.loop.injEq, Loop.mk.injEq] at h2
    exact h2.2.2.2.1.symm
  subst e
  exact hH.write hget trivial (fun k hk => by simp [Array.getElem?_setIfInBounds, Ne.symm hk]) (by simp) ⟨rfl, rfl, rfl⟩ ⟨h0, h1, tm', by simp [hlt], h3⟩
theorem Does.round {P0 : Program} {x : Ctx} {id : Nat} {args : List SV} {nx : Nat} {H : Heap} {K : SV → Heap → Nat → Prop} {P : Program} {gl : Gl} (hP : P0 = P) (hgl : x.gl = gl) (hm : P.follows .mixedOrders = true) {pd : Option Code} {fn : FuncId} {nt : Nat} {env : Env} {ps : Array Tmp} {asg body : Code} {d : Nat}
    {st : LoopState} (hid : H.get id = some (.loop st pd fn nt env ps asg body d)) (hps : ps.size = args.length) (hb : (ps.toList.all fun t => Nat.blt t nt) = true)
    (h : ∀ κ' x', Rnd κ' x' P gl nt id nx K → Sat κ' x' ⟨[.code asg, .beginRound, .code body], bindP ps.toList args env, H, nx, []⟩) : Does P0 x (.yl id) args nx H K := by
  intro ν w fv vs hn hH hfv hvs
  subst hP hgl
  simp only [Rel] at hfv
  obtain ⟨hlt, rfl⟩ := hfv
  obtain ⟨_, hd, tm, hl, hE⟩ := hH.ok _ _ hid
  refine CallsV.round (r := ⟨st, pd, fn, tm, ps, asg, body, ν.blk d⟩) hl (by simp [hps, hvs.length]) fun c cs => ?_
  let b : Frame := { (default : Frame) with fn := fn, kind := .normal, roundOf := some (ν.blk id) }
  let R : Value → World → Prop := fun v w' => ∃ ν' H' s, Grows ν ν' ∧ Holds x ν' H' w' ∧ Rel ν' s v ∧ K s H' ν'.nx
  let κ' : Kx := { P := P0, b := b, cs := c :: cs, T := RBack (ν.blk id) c cs R, nt := nt, hk := by simp [b], hm := hm }
  let x' : Ctx := ⟨x.w0, x.S, ν, x.gl⟩
  have hH' : Holds x' ν H w := ⟨hH.ok, hH.sep, hH.mine, hH.ro, hH.rosep, fun k c hk => .inl hk, hH.gl, hH.frame, hH.size, hH.fix, .refl _⟩
  have back : ∀ {ν' : Nm} {H' : Heap} {w' : World}, Holds x' ν' H' w' → Holds x ν' H' w' := fun hH2 => ⟨hH2.ok, hH2.sep, hH2.mine, hH2.ro, hH2.rosep, fun k c hk => by
    rcases hH2.ronew k c hk with h4 | h4
    · exact hH.ronew k c h4
    · exact .inr h4, hH2.gl, hH2.frame, hH2.size, hH2.fix, hH.anc.trans hH2.anc⟩
  have ending : ∀ (todo : List Item) (jump : Option Code) (env : Env) (H' : Heap) (n' : Nat) st pd fn n e qs as bo d, H'.get id = some (.loop st pd fn n e qs as bo d) → K (.v (.bool jump.isNone)) (H'.set id (.loop (if jump.isNone then .ready else .done) jump fn n e qs as bo d)) n' →
      ((todo = [] ∧ jump = none) ∨ (∃ k, todo = .code .ret :: k ∧ jump = some .ret) ∨ (∃ i k, todo = .code (.exit i) :: k ∧ exitTo i k = none ∧ jump = some (.exit i)) ∨ (∃ i k, todo = .code (.goto i) :: k ∧ gotoIn i k = none ∧ jump = some (.goto i))) → Sat κ' x' ⟨todo, env, H', n', []⟩ := by
    intro todo jump env H' n' st pd fn n e qs as bo d hget hK htodo ν' w' a hn' hH2 hE2 hD2
    obtain ⟨_, _, tm', hl', _⟩ := hH2.ok _ _ hget
    have hbid : ν'.blk id = ν.blk id := hH2.anc.2.1 id hlt
    have hset := hH2.setLoop hget hl' (if jump.isNone then .ready else .done) jump
    rw [hbid] at hl' hset
    have hfr : fr κ'.b a todo = fr b ⟨a.tmps, []⟩ todo := by
      obtain ⟨tmps, ds⟩ := a
      have : ds = [] := by simpa using hD2.2
      subst this; rfl
    show Lands P0 (lone (fr κ'.b a todo) (c :: cs) w') _
    rw [hfr]
    refine lands_endRound (b := b) rfl rfl hl' htodo ?_
    have hn' : ν'.nx = n' := hn'
    exact ⟨ν', _, _, hH2.anc, back hset, bool_rel _, by rw [hn']; exact hK⟩
  have rnd : Rnd κ' x' P0 x.gl nt id nx K := by
    refine ⟨rfl, rfl, rfl, hn, fun k env H' n' dfs pd fn n e qs as bo d hget hs => ?_, fun env H' n' st pd fn n e qs as bo d hget hK => ?_, fun k env H' n' st pd fn n e qs as bo d hget hK => ?_, fun i k env H' n' st pd fn n e qs as bo d hi hget hK => ?_, fun i k env H' n' st pd fn n e qs as bo d hi hget hK => ?_⟩
    · intro ν' w' a hn' hH2 hE2 hD2
      obtain ⟨_, _, tm', hl', _⟩ := hH2.ok _ _ hget
      have hbid : ν'.blk id = ν.blk id := hH2.anc.2.1 id hlt
      have hset := hH2.setLoop hget hl' .busy pd
      rw [hbid] at hl' hset
      exact lands_beginRound (b := b) rfl hl' rfl (hs ν' _ a hn' hset hE2 hD2)
    · exact ending [] none env H' n' st pd fn n e qs as bo d hget hK (.inl ⟨rfl, rfl⟩)
    · exact ending _ (some .ret) env H' n' st pd fn n e qs as bo d hget hK (.inr (.inl ⟨k, rfl, rfl⟩))
    · exact ending _ (some (.exit i)) env H' n' st pd fn n e qs as bo d hget hK (.inr (.inr (.inl ⟨i, k, rfl, hi, rfl⟩)))
    · exact ending _ (some (.goto i)) env H' n' st pd fn n e qs as bo d hget hK (.inr (.inr (.inr ⟨i, k, rfl, hi, rfl⟩)))
  have key := h κ' x' rnd ν w ⟨(ps.zip vs.toArray).foldl (fun tmps (t, a) => tmps.setIfInBounds t a) tm, []⟩ hn hH' ?_ ⟨by simp, by simp⟩
  · exact key
  · have hall : ∀ t ∈ ps.toList, t < nt := fun t ht => by
      have := (List.all_eq_true.1 hb) t ht
      exact Nat.lt_of_succ_le (by simpa [Nat.blt] using this)
    have := bindP_rel (ps := ps.toList) hall hE hvs (by simp [hps, hvs.length])
    have e1 : (ps.zip vs.toArray).foldl (fun tmps (t, a) => tmps.setIfInBounds t a) tm = (ps.toList.zip vs).foldl (fun tmps (p : Tmp × Value) => tmps.setIfInBounds p.1 p.2) tm := by
      rw [← Array.foldl_toList, Array.toList_zip]
    rw [← e1] at this
    exact this
end Go.Sy

/- Statements that draw their order. No condition. -/
import Derived.Test.YtmieikflcolbaaaSyF
namespace Go.Sy
open Go
set_option linter.unusedSimpArgs false
set_option linter.unusedVariables false
section
variable {P : Program} {x : Ctx} {ν : Nm} {H : Heap} {w : World}
theorem sopq_sound {Q : SV → Heap → Nat → Prop} {nt : Nat} {env : Env} {a : Act} {o : Oper} (hq : quietOp o.op = true) (hE : RelE ν nt env a.tmps) (hH : Holds x ν H w) (hr : R1OK Q (sop P x.gl env H ν.nx o.op)) :
    OpQ P ν w (execOp a.eval o) fun s => Q s H ν.nx := by
  have he : ∀ (y : Operand) q, ev x.gl env y = some q → Rel ν q (a.eval y) := fun y q h => ev_rel hH.glOK hE h
  have hes : ∀ (ys : List Operand) q, evs x.gl env ys = some q → RelL ν q (ys.map a.eval) := fun ys q h => evs_rel hH.glOK hE h
  have hopt : ∀ (y : Option Operand) (r : Option Int), optI (y.map (ev x.gl env)) = some r → (r = none ∧ y.map a.eval = none) ∨ ∃ k i, r = some i ∧ y.map a.eval = some (.int k i) := by
    intro y r h
    refine optI_rel (ν := ν) (fun u hu => ?_) (fun hn => by cases y <;> simp_all) r h
    cases y with
    | none => simp at hu
    | some y =>
      simp only [Option.map_some, Option.some.injEq] at hu
      subst hu
      exact ⟨_, rfl, fun s hs => he y s hs⟩
  cases hop : o.op with
  | move y => rw [hop] at hr; simp only [execOp, hop]; exact move_sound (he y) hr
  | assign y => rw [hop] at hr; simp only [execOp, hop]; exact move_sound (he y) hr
  | pick c y z => rw [hop] at hr; simp only [execOp, hop]; exact pick_sound (he c) (he y) (he z) hr
  | build T ps => rw [hop] at hr; simp only [execOp, hop]; exact build_sound hH.glOK hE hr
  | load T y => rw [hop] at hr; simp only [execOp, hop]; exact load_sound hH (he y) hr
  | nilCheck y => rw [hop] at hr; exact nil_sound hop rfl (he y) hr
  | binOp op t y z u => rw [hop] at hr; simp only [execOp, hop]; exact bin_sound (he y) (he z) hr
  | unOp op t y => rw [hop] at hr; simp only [execOp, hop]; exact un_sound (he y) hr
  | convert s d y =>
    rw [hop] at hr; simp only [execOp, hop]
    simp only [sop] at hr
    split at hr
    · exact conv_sound hH ⟨_, by assumption⟩ (he y) hr
    · exact hr.elim
  | makeFunc fn f c =>
    rw [hop] at hr; simp only [execOp, hop]
    exact makeFunc_sound (fun q hq => by simpa using hes _ q hq) (fun q hq => by simpa using hes _ q hq) hr
  | slice t y lo hi mx => rw [hop] at hr; simp only [execOp, hop]; exact slice_sound (he y) (hopt lo) (hopt hi) (hopt mx) hr
  | fieldAddr t y f => rw [hop] at hr; simp only [execOp, hop]; exact fieldAddr_sound (he y) hr
  | field t y f => rw [hop] at hr; simp only [execOp, hop]; exact field_sound (he y) hr
  | indexAddr t y i => rw [hop] at hr; simp only [execOp, hop]; exact indexAddr_sound (he y) (he i) hr
  | index t y i => rw [hop] at hr; simp only [execOp, hop]; exact index_sound (he y) (he i) hr
  | extract y i => rw [hop] at hr; simp only [execOp, hop]; exact extract_sound (he y) hr
  | lookup t m k ok => rw [hop] at hr; simp only [execOp, hop]; exact lookup_sound hH (he m) (he k) hr
  | call c =>
    rw [hop] at hr hq
    obtain ⟨cal, args, tys⟩ := c
    cases cal with
    | value f => exact hr.elim
    | invoke r m => exact hr.elim
    | builtin b =>
      have hr' : R1OK Q (sBuiltin P x.gl env H ν.nx b args.toList tys.toList) := hr
      have hx : ∃ consts, execOp a.eval o = builtin b tys o.type consts (args.map a.eval) := ⟨_, by simp only [execOp, hop, resolve]; rfl⟩
      obtain ⟨consts, hx⟩ := hx
      rw [hx]
      have e : Array.map a.eval args = (List.map a.eval args.toList).toArray := by apply Array.ext'; simp
      have e2 : tys = tys.toList.toArray := by simp
      rw [e, e2]
      generalize args.toList = al at hr' ⊢
      generalize tys.toList = tl at hr' ⊢
      unfold sBuiltin at hr'
      split at hr'
      · exact len_sound (he _) hr'
      · simp [quietOp] at hq
      · simp [quietOp] at hq
      · simp [quietOp] at hq
      · refine minMax_sound (mx := true) (tys := tl.toArray) (ty := o.type) ⟨by simp, fun i s hi => ?_⟩ hr'
        simp only [List.getElem?_map, Option.map_eq_some_iff] at hi
        obtain ⟨y, h1, h2⟩ := hi
        exact ⟨a.eval y, by simp [h1], he y s h2⟩
      · refine minMax_sound (mx := false) (tys := tl.toArray) (ty := o.type) ⟨by simp, fun i s hi => ?_⟩ hr'
        simp only [List.getElem?_map, Option.map_eq_some_iff] at hi
        obtain ⟨y, h1, h2⟩ := hi
        exact ⟨a.eval y, by simp [h1], he y s h2⟩
      · simp [quietOp] at hq
      · exact hr'.elim
  | _ => rw [hop] at hq; simp [quietOp] at hq
theorem put_eq (a : Act) (dst : Option Tmp) (v : Value) : { a with tmps := put a.tmps dst v } = a.put dst v := by cases dst <;> rfl
theorem lands_qOp {b : Frame} {cs : List Frame} {T : Machine → Prop} {k : List Item} {ops : Array Oper} {C : World → Prop} {K : Act → Prop} {i : Nat} {l : List Nat} {a : Act} (hdef : ∀ (i : Nat) o c, ops[i]? = some o → o.op ≠ .defer c)
    (hw : C w) (h : qOp P ops C i K a) (hK : ∀ a w, C w → K a → Lands P (lone (fr b a (.inRegion ops l :: k)) cs w) T) : Lands P (lone (fr b a (.inRegion ops (i :: l) :: k)) cs w) T := by
  unfold qOp at h
  cases ho : ops[i]? with
  | none =>
    simp only [ho] at h
    refine .step (m₁ := lone (fr b a (.inRegion ops l :: k)) cs w) (step_lone_go ?_) (hK a w hw h)
    simp only [fr]
    simp [stepG, stepG.exec, ho, Frame.finish]
  | some o =>
    simp only [ho] at h
    have hd : ∀ c, o.op ≠ .defer c := fun c => hdef i o c ho
    by_cases hwt : Region.wanted o (yielded ops a.tmps) = true
    · simp only [hwt, if_true] at h
      obtain ⟨v, h1, h2⟩ := h
      have h3 := h1 w hw
      unfold Oper.quietAt at h3
      cases hr : (execOp a.eval o).run P w with
      | halt y w' => rw [hr] at h3; exact h3.elim
      | ok n w' =>
        rw [hr] at h3
        cases n with
        | value u =>
          obtain ⟨rfl, rfl⟩ := h3
          exact lands_op_value ho hwt hd hr (by rw [put_eq]; exact hK _ _ hw h2)
        | skip =>
          obtain ⟨rfl, rfl⟩ := h3
          exact lands_op_unit ho hwt hd hr (by rw [put_eq]; exact hK _ _ hw h2)
        | enter f args =>
          obtain ⟨rfl, hc⟩ := h3
          obtain ⟨e, w'', fr', ⟨rfl, hC⟩, hsteps, _, hl⟩ := hc (fr b a (.inRegion ops (i :: l) :: k) :: cs)
          have hg := stepG_fr_op (P := P) (b := b) (a := a) (k := k) (cs := cs) (w := w') (rest := l) ho hwt hd
          refine .step (m₁ := lone (Frame.enter P f args .normal) (fr b a (.inRegion ops (i :: l) :: k) :: cs) w') (step_lone_go ?_) ?_
          · rw [hg]; simp [stepG.apply, hr, fr]
          · refine .steps (Steps.trans hsteps (.one (step_leave_returned hl))) ?_
            rw [fr_finish, ho]
            exact (put_eq a o.dst v) ▸ hK _ _ hC h2
        | _ => exact h3.elim
    · simp only [hwt] at h
      exact lands_op_skip ho (by simpa using hwt) (by rw [put_eq]; exact hK _ _ hw h)
theorem lands_anyQ {b : Frame} {cs : List Frame} {T : Machine → Prop} {k : List Item} {ops : Array Oper} {C : World → Prop} {Q : Act → Prop} (hdef : ∀ (i : Nat) o c, ops[i]? = some o → o.op ≠ .defer c)
    (hQ : ∀ a w, C w → Q a → Lands P (lone (fr b a k) cs w) T) : ∀ (fuel t : Nat) (listed : Array Bool) (a : Act) (w : World), C w → wpAnyQ P .any ops C Q fuel listed a →
      Lands P (lone (fr b a (.inRegion ops (Region.linearise.go .any ops fuel t listed []) :: k)) cs w) T := by
  intro fuel
  induction fuel with
  | zero => intro t listed a w hw h; exact lands_region_end (hQ a w hw h.2)
  | succ fuel ih =>
    intro t listed a w hw h
    obtain ⟨h₀, h₁⟩ := h
    simp only [Region.linearise.go]
    change Lands P (lone (fr b a (.inRegion ops (match (Region.ready .any ops listed)[t % (Region.ready .any ops listed).length]? with
      | some i => Region.linearise.go .any ops fuel (t / (Region.ready .any ops listed).length) (listed.setIfInBounds i true) [i]
      | none => [].reverse) :: k)) cs w) T
    cases hi : (Region.ready .any ops listed)[t % (Region.ready .any ops listed).length]? with
    | none =>
      have hnil : Region.ready .any ops listed = [] := by
        cases hr : Region.ready .any ops listed with
        | nil => rfl
        | cons y ys =>
          rw [hr] at hi
          have hlt : t % (y :: ys).length < (y :: ys).length := Nat.mod_lt _ (by simp)
          simp at hi
          simp at hlt
          omega
      exact lands_region_end (hQ a w hw (h₀ hnil))
    | some i =>
      simp only []
      rw [linearise_go_acc, List.reverse_singleton, List.singleton_append]
      exact lands_qOp hdef hw (h₁ i (List.mem_of_getElem? hi)) fun a' w' hw' hK => ih _ _ a' w' hw' hK
theorem lands_draw {b : Frame} {cs : List Frame} {T : Machine → Prop} {k : List Item} {ops : Array Oper} {id : Nat} {a : Act} {C : World → Prop} (hm : P.follows .mixedOrders = true) (hB : Region.lexB .any ops = true) (hdef : ∀ (i : Nat) o c, ops[i]? = some o → o.op ≠ .defer c)
    (hC : C { w with drawn := w.drawn + 1 }) (h : wpQuiet P ops C (fun a' => ∀ w', C w' → Lands P (lone (fr b a' k) cs w') T) ops.toList a) : Lands P (lone (fr b a (.code (.region id ops true) :: k)) cs w) T := by
  simp only [Region.lexB, Bool.and_eq_true] at hB
  have h2 := wpAnyQ_lex (C := C) (md := .any) hB.1 ops.toList 0 (Array.replicate ops.size false) a (by simp) (by simpa using hB.2) h
  simp only [Array.length_toList] at h2
  refine lands_region_draw fun t => ?_
  simp only [Region.schedule, hm, Bool.true_or, if_true]
  exact lands_anyQ hdef (fun a' w' hw' hq => hq w' hw') ops.size t _ a _ hC h2
end
end Go.Sy

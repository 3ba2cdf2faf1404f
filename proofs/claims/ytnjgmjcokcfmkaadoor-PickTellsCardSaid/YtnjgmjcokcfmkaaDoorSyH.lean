/- Many steps: what the executor comes to is what the machine comes to. The end of a function; loops; calls. No condition. -/
import Derived.Test.YtnjgmjcokcfmkaaDoorSyL
namespace Go.Sy
open Go
set_option linter.unusedSimpArgs false
set_option linter.unusedVariables false

structure Kx where
  P : Program
  b : Frame
  cs : List Frame
  T : Machine → Prop
  nt : Nat
  hk : b.kind ≠ .early
  hm : P.follows .mixedOrders = true

def RelD (ν : Nm) (dfs : List Nat) (ds : List Deferred) : Prop := (∀ id ∈ dfs, id < ν.nx) ∧ ds = dfs.map fun id => { target := .collected (ν.blk id), args := #[] }
theorem RelD.grows {ν ν' : Nm} {dfs : List Nat} {ds : List Deferred} (h : RelD ν dfs ds) (g : Grows ν ν') : RelD ν' dfs ds :=
  ⟨fun id hid => Nat.lt_of_lt_of_le (h.1 id hid) g.1, by rw [h.2]; exact List.map_congr_left fun id hid => by rw [g.2.1 id (h.1 id hid)]⟩

/-- From every world that a symbolic state is true of, the machine lands. -/
def Sat (κ : Kx) (x : Ctx) (c : Cfg) : Prop :=
  ∀ (ν : Nm) (w : World) (a : Act), ν.nx = c.nx → Holds x ν c.heap w → RelE ν κ.nt c.env a.tmps → RelD ν c.dfs a.defers → Lands κ.P (lone (fr κ.b a c.todo) κ.cs w) κ.T

/-- What is owed of a call: it comes back, and what is known then leads on. -/
def Does (P : Program) (x : Ctx) (f : SV) (args : List SV) (nx : Nat) (H : Heap) (K : SV → Heap → Nat → Prop) : Prop :=
  ∀ (ν : Nm) (w : World) (fv : Value) (vs : List Value), ν.nx = nx → Holds x ν H w → Rel ν f fv → RelL ν args vs →
    CallsV P fv vs.toArray w fun v w' => ∃ ν' H' s, Grows ν ν' ∧ Holds x ν' H' w' ∧ Rel ν' s v ∧ K s H' ν'.nx
abbrev CallOK (κ : Kx) (x : Ctx) (f : SV) (args : List SV) (dst : Option Nat) (c : Cfg) : Prop :=
  Does κ.P x f args c.nx c.heap fun s H nx => Sat κ x ⟨c.todo, setO dst s c.env, H, nx, c.dfs⟩

def OutOK (κ : Kx) (x : Ctx) : Out → Prop
  | .need p o => p ∧ (p → OutOK κ x o)
  | .all k => ∀ i, OutOK κ x (k i)
  | .call f args dst c => CallOK κ x f args dst c
  | .stop c => Sat κ x c
  | .fail _ => False

section
variable {κ : Kx} {x : Ctx}

theorem OutOK_need {p : Prop} {o : Out} : OutOK κ x (.need p o) ↔ p ∧ (p → OutOK κ x o) := Iff.rfl
theorem OutOK_all {k : Nat → Out} : OutOK κ x (.all k) ↔ ∀ i, OutOK κ x (k i) := Iff.rfl
theorem OutOK_call {f : SV} {args : List SV} {dst : Option Nat} {c : Cfg} : OutOK κ x (.call f args dst c) ↔ CallOK κ x f args dst c := Iff.rfl
theorem OutOK_stop {c : Cfg} : OutOK κ x (.stop c) ↔ Sat κ x c := Iff.rfl
theorem OutOK_fail {s : String} : OutOK κ x (.fail s) ↔ False := Iff.rfl
theorem OutOK_fork {ex : Cfg → Out} {t : Bool} {c d : Cfg} (h1 : t = true → OutOK κ x (ex c)) (h2 : t = false → OutOK κ x (ex d)) : OutOK κ x (runR ex (.fork t c d)) := by
  cases t
  · exact h2 rfl
  · exact h1 rfl
theorem OutOK_guard {ex : Cfg → Out} {t want : Bool} {r : SR} {s : Cfg} (h1 : t = want → OutOK κ x (runR ex r)) (h2 : t = (!want) → OutOK κ x (ex s)) : OutOK κ x (runR ex (.guard t want r s)) := by
  simp only [runR]
  split
  · exact h1 (by assumption)
  · exact h2 (by cases t <;> cases want <;> simp_all)

/-- What is asked of an operation's result. -/
def Takes (κ : Kx) (x : Ctx) (ex : Cfg → Out) (dst : Option Nat) (todo : List Item) (env : Env) (dfs : List Nat) (s : SV) (H : Heap) (nx : Nat) : Prop :=
  match dst with
  | some d => d < κ.nt ∧ OutOK κ x (ex ⟨todo, (d, s) :: env, H, nx, dfs⟩)
  | none => OutOK κ x (ex ⟨todo, env, H, nx, dfs⟩)

theorem toSR_sound {ex : Cfg → Out} {dst : Option Nat} {todo : List Item} {env : Env} {dfs : List Nat} : ∀ r : R1, OutOK κ x (runR ex (toSR κ.nt dst todo env dfs r)) → R1OK (Takes κ x ex dst todo env dfs) r
  | .ok s H nx, h => by
    unfold toSR at h
    show Takes κ x ex dst todo env dfs s H nx
    unfold Takes
    split at h
    · split at h
      · exact ⟨by assumption, h⟩
      · exact h.elim
    · exact h
  | .need p r, h => ⟨h.1, fun hp => toSR_sound r (h.2 hp)⟩
  | .all k, h => fun i => toSR_sound (k i) (h i)
  | .fail s, h => h

theorem put_rel {ν : Nm} {env : Env} {tm : Array Value} {dst : Option Nat} {s : SV} {v : Value} (hE : RelE ν κ.nt env tm) (hd : ∀ d, dst = some d → d < κ.nt) (hs : Rel ν s v) :
    RelE ν κ.nt (setO dst s env) (put tm dst v) := by
  cases dst with
  | none => exact hE
  | some d => exact hE.put (hd d rfl) hs

theorem runOp_sound {ex : Cfg → Out} (hex : ∀ c, OutOK κ x (ex c) → Sat κ x c) {ops : Array Oper} {i : Nat} {r : List Nat} {k : List Item} {o : Oper} {env : Env} {H : Heap} {nx : Nat} {dfs : List Nat}
    (ho : ops[i]? = some o) {ν : Nm} {w : World} {a : Act} (hw : Region.wanted o (yielded ops a.tmps) = true)
    (h : OutOK κ x (runR ex (runOp κ.P x.gl κ.nt o (.inRegion ops r :: k) env H nx dfs))) (hn : ν.nx = nx) (hH : Holds x ν H w) (hE : RelE ν κ.nt env a.tmps) (hD : RelD ν dfs a.defers) :
    Lands κ.P (lone (fr κ.b a (.inRegion ops (i :: r) :: k)) κ.cs w) κ.T := by
  subst hn
  have plain : (∀ c, o.op ≠ .defer c) → OutOK κ x (runR ex (toSR κ.nt o.dst (.inRegion ops r :: k) env dfs (sop κ.P x.gl env H ν.nx o.op))) → Lands κ.P (lone (fr κ.b a (.inRegion ops (i :: r) :: k)) κ.cs w) κ.T := by
    intro hd h
    have h := toSR_sound _ h
    obtain ⟨v, w', ν', s, H', hrun, hg, hH', hs, hQ⟩ := sop_sound (P := κ.P) hE hH h
    have next : Lands κ.P (lone (fr κ.b { a with tmps := put a.tmps o.dst v } (.inRegion ops r :: k)) κ.cs w') κ.T := by
      unfold Takes at hQ
      split at hQ
      · rename_i d hdst
        rw [hdst]
        exact hex _ hQ.2 ν' w' _ rfl hH' ((hE.grows hg).put hQ.1 hs) (hD.grows hg)
      · rename_i hdst
        rw [hdst]
        exact hex _ hQ ν' w' _ rfl hH' (hE.grows hg) (hD.grows hg)
    rcases hrun with hrun | ⟨hrun, rfl⟩
    · exact lands_op_value ho hw hd hrun next
    · exact lands_op_unit ho hw hd hrun next
  unfold runOp at h
  split at h
  · rename_i f args tys hop
    split at h
    case h_2 => exact h.elim
    rename_i g as hf has
    have hfv := ev_rel hH.glOK hE hf
    have hav := evs_rel hH.glOK hE has
    have key : CallOK κ x g as o.dst ⟨.inRegion ops r :: k, env, H, ν.nx, dfs⟩ ∧ ∀ d, o.dst = some d → d < κ.nt := by
      split at h
      · rename_i d hdst
        split at h
        · rename_i hlt
          rw [hdst]
          refine ⟨h, fun d' hd' => ?_⟩
          simp only [Option.some.injEq] at hd'
          exact hd' ▸ hlt
        · exact h.elim
      · rename_i hdst
        rw [hdst]
        exact ⟨h, fun d' hd' => absurd hd' (by simp)⟩
    obtain ⟨hcall, hdst⟩ := key
    have hc := hcall ν w _ _ rfl hH hfv hav
    have e : (List.map a.eval args.toList).toArray = Array.map a.eval args := by apply Array.ext'; simp
    rw [e] at hc
    refine lands_op_call ho hop hw κ.hk hc ?_
    rintro v w' ⟨ν', H', s, hg, hH', hs, hsat⟩
    exact hsat ν' w' _ rfl hH' (put_rel (hE.grows hg) hdst hs) (hD.grows hg)
  · rename_i hne
    exact plain (by intro c hc; rw [hc] at h; exact h.elim) h

theorem guard_yield {ops : Array Oper} {j d : Nat} {tm : Array Value} {b : Bool} (hd : (ops[j]?).bind (·.dst) = some d) (hy : tm[d]? = some (.bool b)) : yielded ops tm j = some b := by
  simp only [yielded, hd, Option.bind_some, hy]
theorem guard_yield' {ops : Array Oper} {j d : Nat} {tm : Array Value} {b : Array Value} (hd : (ops[j]?).bind (·.dst) = some d) (hy : tm[d]? = some (.tuple b)) : yielded ops tm j = none := by
  simp only [yielded, hd, Option.bind_some, hy]

theorem guardS_sound {ex : Cfg → Out} (hex : ∀ c, OutOK κ x (ex c) → Sat κ x c) {ops : Array Oper} {i j : Nat} {want : Bool} {r : List Nat} {k : List Item} {o : Oper} {env : Env} {H : Heap} {nx : Nat} {dfs : List Nat}
    (ho : ops[i]? = some o) (hgd : o.guard = some (j, want)) {ν : Nm} {w : World} {a : Act}
    (h : OutOK κ x (runR ex (guardS κ.P x.gl κ.nt o want (.inRegion ops r :: k) env H nx dfs ((ops[j]?).bind (·.dst))))) (hn : ν.nx = nx) (hH : Holds x ν H w) (hE : RelE ν κ.nt env a.tmps) (hD : RelD ν dfs a.defers) :
    Lands κ.P (lone (fr κ.b a (.inRegion ops (i :: r) :: k)) κ.cs w) κ.T := by
  subst hn
  cases hd : (ops[j]?).bind (·.dst) with
  | none => rw [hd] at h; exact h.elim
  | some d =>
    rw [hd] at h
    unfold guardS at h
    split at h
    case h_2 hne => cases hne
    rename_i q d' heq
    simp only [Option.some.injEq] at heq
    subst heq
    split at h
    · -- a bool
      rename_i t ht
      obtain ⟨y, hy1, hy2⟩ := hE.2 d _ ht
      simp only [Rel] at hy2
      subst hy2
      have hyield := guard_yield hd hy1
      have run : t = want → OutOK κ x (runR ex (runOp κ.P x.gl κ.nt o (.inRegion ops r :: k) ((d, .v (.bool want)) :: env) H ν.nx dfs)) → Lands κ.P (lone (fr κ.b a (.inRegion ops (i :: r) :: k)) κ.cs w) κ.T := by
        rintro rfl h
        exact runOp_sound hex ho (by simp [Region.wanted, hgd, hyield]) h rfl hH (hE.know hy1 rfl) hD
      have skip : t ≠ want → ∀ env', OutOK κ x (ex ⟨.inRegion ops r :: k, env', H, ν.nx, dfs⟩) → RelE ν κ.nt env' (put a.tmps o.dst undef) → Lands κ.P (lone (fr κ.b a (.inRegion ops (i :: r) :: k)) κ.cs w) κ.T := by
        intro hne env' h hE'
        refine lands_op_skip ho ?_ (hex _ h ν w { a with tmps := put a.tmps o.dst undef } rfl hH hE' hD)
        simp [Region.wanted, hgd, hyield, hne]
      have hE1 : t ≠ want → RelE ν κ.nt ((d, .v (.bool !want)) :: env) a.tmps := by
        intro hne
        have : t = !want := by cases t <;> cases want <;> simp_all
        exact hE.know hy1 (by rw [this]; rfl)
      split at h
      · rename_i z hz
        split at h
        case isFalse => exact h.elim
        rename_i hlt
        simp only [runR] at h
        split at h
        · exact run (by assumption) h
        · rename_i hne
          refine skip hne _ h ?_
          rw [hz]
          exact (hE1 hne).put hlt.1 rfl
      · rename_i hz
        split at h
        case isFalse => exact h.elim
        simp only [runR] at h
        split at h
        · exact run (by assumption) h
        · rename_i hne
          refine skip hne _ h ?_
          rw [hz]
          exact hE1 hne
    · -- nothing has been yielded
      rename_i t ht
      obtain ⟨y, hy1, hy2⟩ := hE.2 d _ ht
      simp only [Rel] at hy2
      subst hy2
      have hyield := guard_yield' hd hy1
      have hw : Region.wanted o (yielded ops a.tmps) = false := by simp [Region.wanted, hgd, hyield]
      split at h
      · rename_i z hz
        split at h
        case isFalse => exact h.elim
        rename_i hlt
        refine lands_op_skip ho hw (hex _ h ν w _ rfl hH ?_ hD)
        rw [hz]
        exact hE.put hlt rfl
      · rename_i hz
        refine lands_op_skip ho hw (hex _ h ν w _ rfl hH ?_ hD)
        rw [hz]
        exact hE
    · exact h.elim

theorem condS_sound {ex : Cfg → Out} (hex : ∀ c, OutOK κ x (ex c) → Sat κ x c) {y : Operand} {ca cb : Code} {k : List Item} {env : Env} {H : Heap} {nx : Nat} {dfs : List Nat}
    (h : OutOK κ x (runR ex (condS (ev x.gl env y) ⟨.code ca :: k, env, H, nx, dfs⟩ ⟨.code cb :: k, env, H, nx, dfs⟩))) : Sat κ x ⟨.code (.cond y ca cb) :: k, env, H, nx, dfs⟩ := by
  intro ν w a hn hH hE hD
  unfold condS at h
  split at h
  case h_2 => exact h.elim
  rename_i b hb
  have := ev_rel hH.glOK hE hb
  simp only [Rel] at this
  refine lands_cond this ?_
  cases b with
  | true => exact hex _ h ν w a hn hH hE hD
  | false => exact hex _ h ν w a hn hH hE hD

theorem drawN_sound {ex : Cfg → Out} {go : Env → SR} {dst : Option Nat} {env : Env} : ∀ r : R1, OutOK κ x (runR ex (drawN κ.nt go dst env r)) →
    R1OK (fun s _ _ => (∀ d, dst = some d → d < κ.nt) ∧ OutOK κ x (runR ex (go (setO dst s env)))) r
  | .ok s H n, h => by
    unfold drawN at h
    show (∀ d, dst = some d → d < κ.nt) ∧ OutOK κ x (runR ex (go (setO dst s env)))
    split at h
    · split at h
      · rename_i hlt
        exact ⟨fun d hd => by simp only [Option.some.injEq] at hd; exact hd ▸ hlt, h⟩
      · exact h.elim
    · exact ⟨fun d hd => absurd hd (by simp), h⟩
  | .need p r, h => ⟨h.1, fun hp => drawN_sound r (h.2 hp)⟩
  | .all _, h => h.elim
  | .fail _, h => h.elim
theorem drawSkip_sound {ex : Cfg → Out} {go : Env → SR} {dst : Option Nat} {env : Env} (h : OutOK κ x (runR ex (drawSkip κ.nt go dst env))) :
    (∀ d, dst = some d → d < κ.nt) ∧ OutOK κ x (runR ex (go (setO dst undefS env))) := by
  unfold drawSkip at h
  split at h
  · split at h
    · rename_i hlt
      exact ⟨fun d hd => by simp only [Option.some.injEq] at hd; exact hd ▸ hlt, h⟩
    · exact h.elim
  · exact ⟨fun d hd => absurd hd (by simp), h⟩

theorem draw_sound {ex : Cfg → Out} (hex : ∀ c, OutOK κ x (ex c) → Sat κ x c) {ops : Array Oper} {k : List Item} {H : Heap} {nx : Nat} {dfs : List Nat} {ν : Nm} {w : World} (hn : ν.nx = nx) (hH : Holds x ν H w) :
    ∀ (l : List Oper) (env : Env) (a : Act), RelE ν κ.nt env a.tmps → RelD ν dfs a.defers → OutOK κ x (runR ex (drawGo κ.P x.gl κ.nt H nx ops (drawFin k H nx dfs) l env)) →
      wpQuiet κ.P ops (Ext w) (fun a' => ∀ w', Ext w w' → Lands κ.P (lone (fr κ.b a' k) κ.cs w') κ.T) l a
  | [], env, a, hE, hD, h => fun w' e => hex _ h ν w' a hn (hH.grown e) hE hD
  | o :: l, env, a, hE, hD, h => by
    subst hn
    unfold drawGo at h
    split at h
    case isFalse => exact h.elim
    rename_i hq
    have run : ∀ env, RelE ν κ.nt env a.tmps → OutOK κ x (runR ex (drawN κ.nt (drawGo κ.P x.gl κ.nt H ν.nx ops (drawFin k H ν.nx dfs) l) o.dst env (sop κ.P x.gl env H ν.nx o.op))) →
        o.quiet κ.P a (Ext w) (wpQuiet κ.P ops (Ext w) (fun a' => ∀ w', Ext w w' → Lands κ.P (lone (fr κ.b a' k) κ.cs w') κ.T) l) := by
      intro env hE h
      obtain ⟨v, s, h1, h2, h3, h4⟩ := sopq_sound (P := κ.P) hq hE hH (drawN_sound _ h)
      refine ⟨v, fun w' e => ?_, ?_⟩
      · unfold Oper.quietAt; rw [h1 w' e]; exact ⟨rfl, rfl⟩
      · rw [← put_eq]
        exact draw_sound hex rfl hH l _ _ (put_rel hE h3 h2) hD h4
    have skip : ∀ env, RelE ν κ.nt env a.tmps → OutOK κ x (runR ex (drawSkip κ.nt (drawGo κ.P x.gl κ.nt H ν.nx ops (drawFin k H ν.nx dfs) l) o.dst env)) →
        wpQuiet κ.P ops (Ext w) (fun a' => ∀ w', Ext w w' → Lands κ.P (lone (fr κ.b a' k) κ.cs w') κ.T) l (a.put o.dst undef) := by
      intro env hE h
      obtain ⟨h3, h4⟩ := drawSkip_sound h
      rw [← put_eq]
      exact draw_sound hex rfl hH l _ _ (put_rel hE h3 (by exact rfl)) hD h4
    unfold wpQuiet
    split at h
    · rename_i hg
      rw [if_pos (by simp [Region.wanted, hg])]
      exact run env hE h
    · rename_i j want hg
      split at h
      case h_2 => exact h.elim
      rename_i d hd
      unfold drawG at h
      split at h
      · rename_i ht
        obtain ⟨y, hy1, hy2⟩ := hE.2 d _ ht
        simp only [Rel] at hy2
        subst hy2
        have hy := guard_yield hd hy1
        cases want with
        | true => rw [if_pos (by simp [Region.wanted, hg, hy])]; exact run env hE h
        | false => rw [if_neg (by simp [Region.wanted, hg, hy])]; exact skip env hE h
      · rename_i ht
        obtain ⟨y, hy1, hy2⟩ := hE.2 d _ ht
        simp only [Rel] at hy2
        subst hy2
        have hy := guard_yield hd hy1
        cases want with
        | true => rw [if_neg (by simp [Region.wanted, hg, hy])]; exact skip env hE h
        | false => rw [if_pos (by simp [Region.wanted, hg, hy])]; exact run env hE h
      · rename_i ht
        obtain ⟨y, hy1, hy2⟩ := hE.2 d _ ht
        simp only [Rel] at hy2
        subst hy2
        have hy := guard_yield' hd hy1
        rw [if_neg (by simp [Region.wanted, hg, hy])]
        exact skip env hE h
      · exact h.elim

theorem allQuiet_defer : ∀ {l : List Oper}, allQuiet l = true → ∀ (i : Nat) o c, l[i]? = some o → o.op ≠ .defer c
  | [], _, i, o, c, h => by simp at h
  | p :: l, hq, i, o, c, h => by
    simp only [allQuiet, Bool.and_eq_true] at hq
    cases i with
    | zero => simp at h; subst h; intro he; rw [he] at hq; simp [quietOp] at hq
    | succ i => exact allQuiet_defer hq.2 i o c (by simpa using h)

theorem drawS_sound {ex : Cfg → Out} (hex : ∀ c, OutOK κ x (ex c) → Sat κ x c) {id : Nat} {ops : Array Oper} {k : List Item} {env : Env} {H : Heap} {nx : Nat} {dfs : List Nat}
    (h : OutOK κ x (runR ex (drawS (allQuiet ops.toList) (drawGo κ.P x.gl κ.nt H nx ops (drawFin k H nx dfs) ops.toList env) ⟨.code (.region id ops true) :: k, env, H, nx, dfs⟩ (Region.lexB .any ops = true)))) : Sat κ x ⟨.code (.region id ops true) :: k, env, H, nx, dfs⟩ := by
  cases hq : allQuiet ops.toList with
  | false => rw [hq] at h; exact h
  | true =>
    rw [hq] at h
    obtain ⟨hB, h⟩ := h
    have h := h hB
    intro ν w a hn hH hE hD
    have hw1 : Holds x ν H { w with drawn := w.drawn + 1 } := hH.same rfl ⟨rfl, rfl, rfl⟩
    exact lands_draw (C := Ext { w with drawn := w.drawn + 1 }) κ.hm hB (fun i o c ho => allQuiet_defer hq i o c (by simpa using ho)) (.refl _) (draw_sound hex hn hw1 ops.toList env a hE hD h)

theorem step_sound {ex : Cfg → Out} (hex : ∀ c, OutOK κ x (ex c) → Sat κ x c) (c : Cfg) (h : OutOK κ x (runR ex (stepS κ.P x.gl κ.nt c))) : Sat κ x c := by
  unfold stepS at h
  split at h
  · exact h
  · exact fun ν w a hn hH hE hD => lands_skip (hex _ h ν w a hn hH hE hD)
  · exact fun ν w a hn hH hE hD => lands_label (hex _ h ν w a hn hH hE hD)
  · exact fun ν w a hn hH hE hD => lands_inBlock (hex _ h ν w a hn hH hE hD)
  · exact fun ν w a hn hH hE hD => lands_inScope (hex _ h ν w a hn hH hE hD)
  · exact fun ν w a hn hH hE hD => lands_seq (hex _ h ν w a hn hH hE hD)
  · exact fun ν w a hn hH hE hD => lands_block (hex _ h ν w a hn hH hE hD)
  · exact fun ν w a hn hH hE hD => lands_scope (hex _ h ν w a hn hH hE hD)
  · exact condS_sound hex h
  · unfold goS at h
    split at h
    · rename_i hk
      exact fun ν w a hn hH hE hD => lands_exit hk (hex _ h ν w a hn hH hE hD)
    · exact h
  · unfold goS at h
    split at h
    · rename_i hk
      exact fun ν w a hn hH hE hD => lands_goto hk (hex _ h ν w a hn hH hE hD)
    · exact h
  · exact fun ν w a hn hH hE hD => lands_region (hex _ h ν w a hn hH hE hD)
  · exact drawS_sound hex h
  · exact fun ν w a hn hH hE hD => lands_region_end (hex _ h ν w a hn hH hE hD)
  · split at h
    case h_2 => exact h.elim
    rename_i o ho
    split at h
    · rename_i hg
      exact fun ν w a hn hH hE hD => runOp_sound hex ho (by simp [Region.wanted, hg]) h hn hH hE hD
    · rename_i j want hg
      exact fun ν w a hn hH hE hD => guardS_sound hex ho hg h hn hH hE hD
  · exact h

/-- THE EXECUTOR IS RIGHT. -/
theorem exec_sound : ∀ (n : Nat) (c : Cfg), OutOK κ x (exec κ.P x.gl κ.nt n c) → Sat κ x c
  | 0, _, h => h
  | n + 1, c, h => step_sound (exec_sound n) c h
end

/-- The frame of a function. -/
def kfun (P : Program) (hm : P.follows .mixedOrders = true) (f : FuncId) (nt : Nat) (cs : List Frame) (R : Value → World → Prop) : Kx :=
  { P, b := base f, cs, T := Back P f cs R, nt, hk := by simp [base], hm }

theorem getElem?_args (args : List Value) (n : Nat) (t : Nat) : ((args.toArray ++ Array.replicate n undef))[t]? = if t < args.length then args[t]? else if t < args.length + n then some undef else none := by
  rw [Array.getElem?_append]
  simp only [List.size_toArray]
  split
  · simp
  · rw [Array.getElem?_replicate]
    split <;> split <;> first | rfl | omega

/-- Parameters. -/
def envOf : Nat → List SV → Env
  | _, [] => []
  | i, s :: l => (i, s) :: envOf (i + 1) l
theorem envOf_rel {ν : Nm} : ∀ (l : List SV) (vs : List Value) (i : Nat), RelL ν l vs → ∀ t s, (envOf i l).get t = some s → ∃ y, i ≤ t ∧ vs[t - i]? = some y ∧ Rel ν s y
  | [], _, _, _, t, s, h => by simp [envOf, Env.get] at h
  | x :: l, vs, i, hl, t, s, h => by
    simp only [RelL] at hl
    obtain ⟨y, ys, rfl, h1, h2⟩ := hl
    simp only [envOf, Env.get] at h
    split at h
    · rename_i e; subst e; simp at h; subst h; exact ⟨y, Nat.le_refl _, by simp, h1⟩
    · rename_i hne
      obtain ⟨z, h3, h4, h5⟩ := envOf_rel l ys (i + 1) h2 t s h
      refine ⟨z, by omega, ?_, h5⟩
      rw [show t - i = (t - (i + 1)) + 1 by omega]
      simpa using h4

/-- A FUNCTION IS WALKED: from every world that a symbolic state of its arguments is true of. -/
theorem calls_of_sat {P : Program} {f : FuncId} {fn : Func} {c : Code} {x : Ctx} {ν : Nm} {H : Heap} {w : World} {args : List SV} {vs : List Value} {R : Value → World → Prop}
    (hf : P.funcs[f]? = some fn) (hb : fn.body = some c) (hlen : vs.length ≤ fn.ntmps) (hH : Holds x ν H w) (ha : RelL ν args vs)
    (hm : P.follows .mixedOrders = true) (h : ∀ cs, Sat (kfun P hm f fn.ntmps cs R) x ⟨[.code c], envOf 0 args, H, ν.nx, []⟩) : Calls P f vs.toArray w fun e w' => ∃ v, e = .returned v ∧ R v w' := by
  refine calls_of_lands hf hb fun cs => h cs ν w _ rfl hH ?_ ⟨by simp, by simp⟩
  refine ⟨by simp [kfun]; omega, fun t s hs => ?_⟩
  obtain ⟨y, _, h2, h3⟩ := envOf_rel args vs 0 ha t s hs
  refine ⟨y, ?_, h3⟩
  simp only [List.size_toArray]
  rw [getElem?_args]
  have : t < vs.length := (List.getElem?_eq_some_iff.1 h2).1
  simpa [this] using h2

/-- A cell's value. -/
def cellOf : R1 → Option SV
  | .ok s _ _ => some s
  | _ => none
/-- A great array that a cell holds. -/
def cellRow (agg : Option Bool) (size : Option Nat) (H : Heap) : Option SV → Option SV
  | some (.ptr id 0 0 0) => match H.get id with
    | some (.row s _ _ xs) => match agg, size with
      | some true, some n => if n = xs.length * s ∧ s ≠ 0 then some (.arr s xs) else none
      | _, _ => none
    | _ => none
  | _ => none
def cellW (agg : Option Bool) (size : Option Nat) (H : Heap) (p : Option SV) : Option SV :=
  match cellRow agg size H p with
  | some s => some s
  | none => cellOf (sLoad agg size H 0 p)
/-- The results. -/
def resOf (P : Program) (env : Env) (H : Heap) : List ResultVar → Option (List SV)
  | [] => some []
  | .tmp t :: l => match env.get t, resOf P env H l with
    | some s, some r => some (s :: r)
    | _, _ => none
  | .cell a t :: l => match cellW (tyAgg P t) (tySize P t) H (env.get a), resOf P env H l with
    | some s, some r => some (s :: r)
    | _, _ => none
def resV : List SV → SV
  | [s] => s
  | l => .tup l

def resM (tm : Array Value) : ResultVar → Sem Value
  | .tmp t => pure (tm.getD t undef)
  | .cell a t => do loadVar t (← asAddr (tm.getD a undef))
theorem results_eq (fn : Func) (tm : Array Value) : results fn tm = (do let vs ← fn.results.mapM (resM tm); pure (if h : vs.size = 1 then vs[0] else .tuple vs)) := by
  unfold results
  have : (fun (r : ResultVar) => (match r with
    | .tmp t => pure (tm.getD t undef)
    | .cell a t => do loadVar t (← asAddr (tm.getD a undef)) : Sem Value)) = resM tm := by funext r; cases r <;> rfl
  rw [← this]
  rfl
theorem cellOf_ok {r : R1} {s : SV} (h : cellOf r = some s) : R1OK (fun u _ _ => u = s) r := by
  cases r with
  | ok u H n => simp only [cellOf, Option.some.injEq] at h; exact h
  | _ => simp [cellOf] at h
theorem sLoad_nx {agg : Option Bool} {size : Option Nat} {H : Heap} {n m : Nat} {p : Option SV} {s : SV} (h : cellOf (sLoad agg size H n p) = some s) : R1OK (fun u _ _ => u = s) (sLoad agg size H m p) := by
  have key : cellOf (sLoad agg size H m p) = cellOf (sLoad agg size H n p) := by
    have h1 : ∀ (x : Option SV), cellOf (rOf x H m) = cellOf (rOf x H n) := by intro x; cases x <;> rfl
    have h2 : ∀ b q sz e r, ∀ B, cellOf (sLoadIn b q sz e r H m B) = cellOf (sLoadIn b q sz e r H n B) := by
      intro b q sz e r B
      cases B with
      | none => rfl
      | some B =>
        cases B with
        | own cs T =>
          simp only [sLoadIn]
          cases cut cs (e * sz + r) q with
          | none => rfl
          | some l => exact h1 _
        | row s' cap T xs =>
          simp only [sLoadIn]
          split
          · rfl
          · split <;> rfl
        | _ => rfl
    unfold sLoad
    split
    · split
      · exact h2 _ _ _ _ _ _
      · rfl
    · split
      · split
        · exact h1 _
        · rfl
      · rfl
    · rfl
  exact cellOf_ok (key.trans h)
theorem cellW_ok {agg : Option Bool} {size : Option Nat} {H : Heap} {m : Nat} {p : Option SV} {s : SV} (h : cellW agg size H p = some s) : R1OK (fun u _ _ => u = s) (sLoad agg size H m p) := by
  unfold cellW at h
  split at h
  case h_2 => exact sLoad_nx h
  rename_i s' hc
  simp only [Option.some.injEq] at h
  subst h
  unfold cellRow at hc
  split at hc
  case h_2 => cases hc
  split at hc
  case h_2 => cases hc
  rename_i hg
  split at hc
  case h_2 => cases hc
  split at hc
  case isFalse => cases hc
  rename_i hn
  simp only [Option.some.injEq] at hc
  subst hc
  simp only [sLoad, sLoadIn, hg]
  rw [if_neg hn.2, if_pos ⟨trivial, trivial, trivial, trivial⟩]
  exact ⟨hn.1, fun _ => rfl⟩
theorem resOf_run {P : Program} {x : Ctx} {ν : Nm} {H : Heap} {nt : Nat} {env : Env} {tm : Array Value} {w : World} (hH : Holds x ν H w) (hE : RelE ν nt env tm) : ∀ {l : List ResultVar} {ss : List SV}, resOf P env H l = some ss →
    ∃ vs : List Value, (l.mapM (resM tm)).run P w = .ok vs w ∧ RelL ν ss vs
  | [], ss, h => by simp [resOf] at h; subst h; exact ⟨[], by simp, rfl⟩
  | .tmp t :: l, ss, h => by
    simp only [resOf] at h
    cases h1 : env.get t with
    | none => simp [h1] at h
    | some s =>
      cases h2 : resOf P env H l with
      | none => simp [h1, h2] at h
      | some r =>
        simp only [h1, h2, Option.some.injEq] at h
        subst h
        obtain ⟨y, k1, k2⟩ := hE.2 t s h1
        obtain ⟨vs, k3, k4⟩ := resOf_run (P := P) (w := w) hH hE h2
        refine ⟨y :: vs, ?_, ⟨y, vs, rfl, k2, k4⟩⟩
        simp only [List.mapM_cons, resM, Sem.run_bind, Sem.run_pure, Result.andThen_ok, k3]
        simp [Array.getD_eq_getD_getElem?, k1]
  | .cell a t :: l, ss, h => by
    simp only [resOf] at h
    cases h1 : cellW (tyAgg P t) (tySize P t) H (env.get a) with
    | none => simp [h1] at h
    | some s =>
      cases h2 : resOf P env H l with
      | none => simp [h1, h2] at h
      | some r =>
        simp only [h1, h2, Option.some.injEq] at h
        subst h
        obtain ⟨vs, k3, k4⟩ := resOf_run (P := P) (w := w) hH hE h2
        have hl := cellW_ok (m := ν.nx) h1
        cases h3 : env.get a with
        | none => rw [h3] at hl; exact hl.elim
        | some p =>
          obtain ⟨y, k1, k2⟩ := hE.2 a p h3
          rw [h3] at hl
          obtain ⟨v, s', q1, q2, q3⟩ := load_sound (P := P) (s := some p) (y := y) hH (fun u hu => by simp only [Option.some.injEq] at hu; exact hu ▸ k2) hl
          have q1 := q1 w (.refl w)
          subst q3
          have hy : tm.getD a undef = y := by simp [Array.getD_eq_getD_getElem?, k1]
          have hlv : (do loadVar t (← asAddr y) : Sem Value).run P w = .ok v w := by
            unfold sLoad at hl
            split at hl
            · rename_i id sz e r heq
              simp only [Option.some.injEq] at heq
              subst heq
              simp only [Rel] at k2
              obtain ⟨_, rfl⟩ := k2
              simp only [Instr.loadAt, Instr.sureAddr, Sem.run_bind, Sem.run_pure, Result.andThen_ok] at q1
              simp only [asAddr, Sem.run_bind, Sem.run_pure, Result.andThen_ok]
              cases hlr : (loadVar t ⟨ν.blk id, e * sz + r, none⟩).run P w with
              | ok v' w' => rw [hlr] at q1; simpa using q1
              | halt hh w' => rw [hlr] at q1; simp at q1
            · rename_i xr r heq
              simp only [Option.some.injEq] at heq
              subst heq
              simp only [Rel] at k2
              obtain ⟨b, o, c, ys, rfl, _⟩ := k2
              simp only [Instr.loadAt, Instr.sureAddr, Sem.run_bind, Sem.run_pure, Result.andThen_ok] at q1
              simp only [asAddr, Sem.run_bind, Sem.run_pure, Result.andThen_ok]
              cases hlr : (loadVar t ⟨b, o + r, none⟩).run P w with
              | ok v' w' => rw [hlr] at q1; simpa using q1
              | halt hh w' => rw [hlr] at q1; simp at q1
            · exact hl.elim
          refine ⟨v :: vs, ?_, ⟨v, vs, rfl, q2, k4⟩⟩
          simp only [List.mapM_cons, resM, hy]
          rw [Sem.run_bind, hlv, Result.andThen_ok, Sem.run_bind, k3, Result.andThen_ok]
          rfl

theorem results_run {P : Program} {x : Ctx} {ν : Nm} {H : Heap} {nt : Nat} {env : Env} {tm : Array Value} {w : World} {fn : Func} {ss : List SV} (hH : Holds x ν H w) (hE : RelE ν nt env tm) (h : resOf P env H fn.results.toList = some ss) :
    ∃ v, (results fn tm).run P w = .ok v w ∧ Rel ν (resV ss) v := by
  obtain ⟨vs, h1, h2⟩ := resOf_run (P := P) (w := w) hH hE h
  refine ⟨if h : vs.toArray.size = 1 then vs.toArray[0] else .tuple vs.toArray, ?_, ?_⟩
  · rw [results_eq]
    simp only [Array.mapM_eq_mapM_toList, Sem.run_bind, Sem.run_map, h1, Result.andThen_ok]
    rfl
  · match ss, vs, h2 with
    | [s], vs, h2 =>
      simp only [RelL] at h2
      obtain ⟨y, ys, rfl, h3, rfl⟩ := h2
      exact h3
    | [], vs, h2 => simp only [RelL] at h2; subst h2; exact ⟨#[], rfl, rfl⟩
    | s :: t :: r, vs, h2 =>
      have hl := h2.length
      rw [dif_neg (by simp at hl ⊢; omega)]
      exact ⟨_, rfl, h2⟩

/-- The blocks of the calls that a function has put off: none has been put off. -/
def defOK (H : Heap) : List Nat → Prop
  | [] => True
  | id :: l => H.get id = some (.obj (.deferred (some []))) ∧ defOK (H.drop id) l
def dropL : List Nat → Heap → Heap
  | [], H => H
  | id :: l, H => dropL l (H.drop id)

/-- The frame is left: what was put off is taken. -/
theorem lands_unwind {P : Program} {f : FuncId} {fn : Func} {cs : List Frame} {x : Ctx} {ν : Nm} {R : Value → World → Prop} {tm : Array Value} {todo : List Item} {env : Env} {nt : Nat} {ss : List SV} (hf : P.funcs[f]? = some fn) (hE : RelE ν nt env tm) :
    ∀ (dfs : List Nat) (H : Heap) (w : World), Holds x ν H w → defOK H dfs → resOf P env (dropL dfs H) fn.results.toList = some ss →
      (∀ w v, Holds x ν (dropL dfs H) w → Rel ν (resV ss) v → R v w) →
      Lands P (lone { fr (base f) ⟨tm, dfs.map fun id => { target := .collected (ν.blk id), args := #[] }⟩ todo with mode := .returning } cs w) (Back P f cs R)
  | [], H, w, hH, _, hres, hfin => by
    obtain ⟨v, h1, h2⟩ := results_run (P := P) (w := w) hH hE hres
    exact .now ⟨_, v, w, rfl, rfl, ⟨rfl, rfl, rfl, fn, hf, h1⟩, hfin w v hH h2⟩
  | id :: dfs, H, w, hH, hd, hres, hfin => by
    obtain ⟨hid, hd⟩ := hd
    obtain ⟨_, _, hob⟩ := hH.ok id _ hid
    have hlt : ν.blk id < w.heap.size := (Array.getElem?_eq_some_iff.1 hob).1
    have hH1 : Holds x ν (H.drop id) { w with heap := w.heap.setIfInBounds (ν.blk id) (.deferred none) } := by
      have h1 : Holds x ν (H.set id (.obj (.deferred none))) { w with heap := w.heap.setIfInBounds (ν.blk id) (.deferred none) } :=
        hH.write hid trivial (fun k hk => by simp [Array.getElem?_setIfInBounds, Ne.symm hk]) (by simp) ⟨rfl, rfl, rfl⟩ ⟨hH.lt hid, by simp, by simp [hlt]⟩
      refine h1.less fun i b hb => ?_
      rw [Heap.get_drop] at hb
      split at hb
      · cases hb
      · rename_i hne
        rw [Heap.get_set, if_neg hne]; exact hb
    refine .step (m₁ := lone { fr (base f) ⟨tm, dfs.map fun id => { target := .collected (ν.blk id), args := #[] }⟩ todo with mode := .returning } cs { w with heap := w.heap.setIfInBounds (ν.blk id) (.deferred none) }) (step_lone_go ?_) ?_
    · have hrun : (Instr.takeDeferred (ν.blk id)).run P w = .ok [] { w with heap := w.heap.setIfInBounds (ν.blk id) (.deferred none) } := by
        simp [Instr.takeDeferred, getObj, setObj, Sem.run, hob]
      simp only [fr, List.map_cons, stepG, unwind]
      simp [Sem.runT_eq, hrun]
    · exact lands_unwind hf hE dfs (H.drop id) _ hH1 hd hres hfin

section
variable {P : Program} {f : FuncId} {cs : List Frame} {R : Value → World → Prop} {fn : Func} {x : Ctx} {k : List Item} {env : Env} {H : Heap} {nx : Nat} {ss : List SV} {hm : P.follows .mixedOrders = true} {dfs : List Nat}
theorem Sat.ret (hf : P.funcs[f]? = some fn) (hd : defOK H dfs) (hres : resOf P env (dropL dfs H) fn.results.toList = some ss)
    (hR : ∀ ν w v, ν.nx = nx → Holds x ν (dropL dfs H) w → Rel ν (resV ss) v → R v w) : Sat (kfun P hm f fn.ntmps cs R) x ⟨.code .ret :: k, env, H, nx, dfs⟩ := by
  intro ν w a hn hH hE hD
  refine .step (m₁ := lone { fr (base f) a (.code .ret :: k) with mode := .returning } cs w) (step_lone_go (by simp [stepG, stepG.exec, fr, base, kfun]; rfl)) ?_
  obtain ⟨tm, ds⟩ := a
  obtain ⟨_, rfl⟩ := hD
  exact lands_unwind hf hE dfs H w hH hd hres (fun w' v h1 h2 => hR ν w' v hn h1 h2)
theorem Sat.fin (hf : P.funcs[f]? = some fn) (hd : defOK H dfs) (hres : resOf P env (dropL dfs H) fn.results.toList = some ss)
    (hR : ∀ ν w v, ν.nx = nx → Holds x ν (dropL dfs H) w → Rel ν (resV ss) v → R v w) : Sat (kfun P hm f fn.ntmps cs R) x ⟨[], env, H, nx, dfs⟩ := by
  intro ν w a hn hH hE hD
  refine .step (m₁ := lone { fr (base f) a [] with mode := .returning } cs w) (step_lone_go (by simp [stepG, stepG.exec, fr, base, kfun]; rfl)) ?_
  obtain ⟨tm, ds⟩ := a
  obtain ⟨_, rfl⟩ := hD
  exact lands_unwind hf hE dfs H w hH hd hres (fun w' v h1 h2 => hR ν w' v hn h1 h2)
end

/-- Less is known. -/
def EnvSub (e e' : Env) : Prop := ∀ t s, e.get t = some s → e'.get t = some s
def HeapSub (h h' : Heap) : Prop := ∀ i b, h.get i = some b → h'.get i = some b
theorem EnvSub.nil (e : Env) : EnvSub [] e := fun _ _ h => by simp [Env.get] at h
theorem EnvSub.cons {e e' : Env} {t : Nat} {s : SV} (h : e'.get t = some s) (k : EnvSub e e') : EnvSub ((t, s) :: e) e' := by
  intro u r hu
  simp only [Env.get] at hu
  split at hu
  · rename_i e; subst e; simp at hu; subst hu; exact h
  · exact k u r hu
theorem HeapSub.nil (e : Heap) : HeapSub [] e := fun _ _ h => by simp [Heap.get] at h
theorem HeapSub.cons {e e' : Heap} {t : Nat} {s : Blk} (h : e'.get t = some s) (k : HeapSub e e') : HeapSub ((t, s) :: e) e' := by
  intro u r hu
  simp only [Heap.get] at hu
  split at hu
  · rename_i e; subst e; simp at hu; subst hu; exact h
  · exact k u r hu
theorem Sat.less {κ : Kx} {x : Ctx} {k : List Item} {e e' : Env} {h h' : Heap} {nx : Nat} {dfs : List Nat} (hs : Sat κ x ⟨k, e, h, nx, dfs⟩) (he : EnvSub e e') (hh : HeapSub h h') : Sat κ x ⟨k, e', h', nx, dfs⟩ :=
  fun ν w a hn hH hE hD => hs ν w a hn (hH.less hh) ⟨hE.1, fun t s ht => hE.2 t s (he t s ht)⟩ hD

end Go.Sy
namespace Go.Sy
open Go
set_option linter.unusedSimpArgs false
set_option linter.unusedVariables false

/- names -/
mutual
def SV.ren (τ : Nat → Nat) : SV → SV
  | .v x => .v x
  | .ptr id sz e r => .ptr (τ id) sz e r
  | .sl id sz off len cap => .sl (τ id) sz off len cap
  | .rd sz xs => .rd sz xs
  | .rp x r => .rp x r
  | .arr sz xs => .arr sz xs
  | .mp id => .mp (τ id)
  | .yl id => .yl (τ id)
  | .fn f a b => .fn f (SV.renL τ a) (SV.renL τ b)
  | .agg l => .agg (SV.renL τ l)
  | .tup l => .tup (SV.renL τ l)
def SV.renL (τ : Nat → Nat) : List SV → List SV
  | [] => []
  | x :: l => SV.ren τ x :: SV.renL τ l
end
mutual
def SV.bnd (m : Nat) : SV → Prop
  | .v _ | .rd .. | .rp .. | .arr .. => True
  | .ptr id _ _ _ => id < m
  | .sl id _ _ _ _ => id < m
  | .mp id => id < m
  | .yl id => id < m
  | .fn _ a b => SV.bndL m a ∧ SV.bndL m b
  | .agg l => SV.bndL m l
  | .tup l => SV.bndL m l
def SV.bndL (m : Nat) : List SV → Prop
  | [] => True
  | x :: l => SV.bnd m x ∧ SV.bndL m l
end
def renE (τ : Nat → Nat) : Env → Env
  | [] => []
  | (t, s) :: e => (t, s.ren τ) :: renE τ e
def bndE (m : Nat) : Env → Prop
  | [] => True
  | (_, s) :: e => s.bnd m ∧ bndE m e
def Blk.ren (τ : Nat → Nat) : Blk → Blk
  | .own cells T => .own (SV.renL τ cells) T
  | .loop st pend fn nt env params assign body d => .loop st pend fn nt (renE τ env) params assign body (τ d)
  | .iter m c s => .iter (τ m) c s
  | b => b
def Blk.bnd (m : Nat) : Blk → Prop
  | .own cells _ => SV.bndL m cells
  | .loop _ _ _ _ env _ _ _ d => bndE m env ∧ d < m
  | .iter i _ _ => i < m
  | _ => True
def renH (τ : Nat → Nat) : Heap → Heap
  | [] => []
  | (i, b) :: e => (τ i, b.ren τ) :: renH τ e

/-- ν' knows under τ i what ν knows under i. -/
def Maps (ν ν' : Nm) (τ : Nat → Nat) : Prop := (∀ i, i < ν.nx → τ i < ν'.nx ∧ ν'.blk (τ i) = ν.blk i) ∧ ∀ k c, ν.ro k = some c → ν'.ro k = some c
theorem Maps.free {ν ν' : Nm} {τ : Nat → Nat} (g : Maps ν ν' τ) : Grows ν.free ν'.free := ⟨Nat.le_refl _, fun i hi => absurd hi (Nat.not_lt_zero i), g.2⟩

mutual
theorem Rel.maps {ν ν' : Nm} {τ : Nat → Nat} (g : Maps ν ν' τ) : ∀ (s : SV) (y : Value), Rel ν s y → Rel ν' (s.ren τ) y
  | .v x, y, h => by simpa [Rel, SV.ren] using h
  | .ptr id sz e r, y, h => by
    simp only [Rel, SV.ren] at h ⊢
    obtain ⟨h1, h2⟩ := h
    obtain ⟨a, b⟩ := g.1 id h1
    refine ⟨a, ?_⟩
    rw [b]; exact h2
  | .sl id sz off len cap, y, h => by
    simp only [Rel, SV.ren] at h ⊢
    obtain ⟨h1, p, h2, h3⟩ := h
    obtain ⟨a, b⟩ := g.1 id h1
    refine ⟨a, p, h2, ?_⟩
    rw [b]; exact h3
  | .rd sz xs, y, h => by
    simp only [Rel, SV.ren] at h ⊢
    obtain ⟨a, cap, ys, h1, h2, h3, h4, h5, h6⟩ := h
    refine ⟨a, cap, ys, h1, h2, h3, h4.grows g.free, h5, fun hn => ?_⟩
    obtain ⟨b, o, c, q1, q2, q3⟩ := h6 hn
    exact ⟨b, o, c, q1, g.2 _ _ q2, q3⟩
  | .rp x r, y, h => by
    simp only [Rel, SV.ren] at h ⊢
    obtain ⟨b, o, c, ys, h1, h2, h3, h4⟩ := h
    exact ⟨b, o, c, ys, h1, g.2 _ _ h2, h3.grows g.free, h4⟩
  | .arr sz xs, y, h => by
    simp only [Rel, SV.ren] at h ⊢
    obtain ⟨c, h1, h2, h3, h4⟩ := h
    exact ⟨c, h1, h2, h3.grows g.free, h4⟩
  | .mp id, y, h => by
    simp only [Rel, SV.ren] at h ⊢
    obtain ⟨a, b⟩ := g.1 id h.1
    exact ⟨a, by rw [b]; exact h.2⟩
  | .yl id, y, h => by
    simp only [Rel, SV.ren] at h ⊢
    obtain ⟨a, b⟩ := g.1 id h.1
    exact ⟨a, by rw [b]; exact h.2⟩
  | .fn f first caps, y, h => by
    simp only [Rel, SV.ren] at h ⊢
    obtain ⟨fs, cs, h1, h2, h3⟩ := h
    exact ⟨fs, cs, h1, RelL.maps g _ _ h2, RelL.maps g _ _ h3⟩
  | .agg xs, y, h => by
    simp only [Rel, SV.ren] at h ⊢
    obtain ⟨c, h1, h2⟩ := h
    exact ⟨c, h1, RelL.maps g _ _ h2⟩
  | .tup xs, y, h => by
    simp only [Rel, SV.ren] at h ⊢
    obtain ⟨c, h1, h2⟩ := h
    exact ⟨c, h1, RelL.maps g _ _ h2⟩
theorem RelL.maps {ν ν' : Nm} {τ : Nat → Nat} (g : Maps ν ν' τ) : ∀ (s : List SV) (y : List Value), RelL ν s y → RelL ν' (SV.renL τ s) y
  | [], y, h => by simpa [RelL, SV.renL] using h
  | x :: xs, y, h => by
    simp only [RelL, SV.renL] at h ⊢
    obtain ⟨y0, ys, h1, h2, h3⟩ := h
    exact ⟨y0, ys, h1, Rel.maps g _ _ h2, RelL.maps g _ _ h3⟩
end

/-- The first m names, found under σ. -/
def Nm.via (ν : Nm) (m : Nat) (σ : Nat → Nat) : Nm := ⟨m, fun i => ν.blk (σ i), ν.ro⟩
theorem via_free (ν : Nm) (m : Nat) (σ : Nat → Nat) : Grows ν.free (ν.via m σ).free := ⟨Nat.le_refl _, fun i hi => absurd hi (Nat.not_lt_zero i), fun _ _ h => h⟩
mutual
theorem Rel.via {ν : Nm} {m : Nat} {σ : Nat → Nat} : ∀ (s : SV) (y : Value), SV.bnd m s → Rel ν (s.ren σ) y → Rel (ν.via m σ) s y
  | .v x, y, _, h => by simpa [Rel, SV.ren] using h
  | .ptr id sz e r, y, b, h => by
    simp only [Rel, SV.ren, SV.bnd] at h b ⊢
    exact ⟨b, h.2⟩
  | .sl id sz off len cap, y, b, h => by
    simp only [Rel, SV.ren, SV.bnd] at h b ⊢
    exact ⟨b, h.2⟩
  | .rd sz xs, y, _, h => by
    simp only [Rel, SV.ren] at h ⊢
    obtain ⟨a, cap, ys, h1, h2, h3, h4, h5, h6⟩ := h
    exact ⟨a, cap, ys, h1, h2, h3, h4.grows (via_free ν m σ), h5, h6⟩
  | .rp x r, y, _, h => by
    simp only [Rel, SV.ren] at h ⊢
    obtain ⟨b, o, c, ys, h1, h2, h3, h4⟩ := h
    exact ⟨b, o, c, ys, h1, h2, h3.grows (via_free ν m σ), h4⟩
  | .arr sz xs, y, _, h => by
    simp only [Rel, SV.ren] at h ⊢
    obtain ⟨c, h1, h2, h3, h4⟩ := h
    exact ⟨c, h1, h2, h3.grows (via_free ν m σ), h4⟩
  | .mp id, y, b, h => by
    simp only [Rel, SV.ren, SV.bnd] at h b ⊢
    exact ⟨b, h.2⟩
  | .yl id, y, b, h => by
    simp only [Rel, SV.ren, SV.bnd] at h b ⊢
    exact ⟨b, h.2⟩
  | .fn f first caps, y, b, h => by
    simp only [Rel, SV.ren, SV.bnd] at h b ⊢
    obtain ⟨fs, cs, h1, h2, h3⟩ := h
    exact ⟨fs, cs, h1, RelL.via _ _ b.1 h2, RelL.via _ _ b.2 h3⟩
  | .agg xs, y, b, h => by
    simp only [Rel, SV.ren, SV.bnd] at h b ⊢
    obtain ⟨c, h1, h2⟩ := h
    exact ⟨c, h1, RelL.via _ _ b h2⟩
  | .tup xs, y, b, h => by
    simp only [Rel, SV.ren, SV.bnd] at h b ⊢
    obtain ⟨c, h1, h2⟩ := h
    exact ⟨c, h1, RelL.via _ _ b h2⟩
theorem RelL.via {ν : Nm} {m : Nat} {σ : Nat → Nat} : ∀ (s : List SV) (y : List Value), SV.bndL m s → RelL ν (SV.renL σ s) y → RelL (ν.via m σ) s y
  | [], y, _, h => by simpa [RelL, SV.renL] using h
  | x :: xs, y, b, h => by
    simp only [RelL, SV.renL, SV.bndL] at h b ⊢
    obtain ⟨y0, ys, h1, h2, h3⟩ := h
    exact ⟨y0, ys, h1, Rel.via _ _ b.1 h2, RelL.via _ _ b.2 h3⟩
end
theorem renE_get {τ : Nat → Nat} {t : Nat} : ∀ {e : Env}, (renE τ e).get t = (e.get t).map (SV.ren τ)
  | [] => rfl
  | (u, s) :: e => by
    simp only [renE, Env.get]
    split
    · rfl
    · exact renE_get
theorem bndE_get {m : Nat} {t : Nat} {s : SV} : ∀ {e : Env}, bndE m e → e.get t = some s → s.bnd m
  | [], _, h => by simp [Env.get] at h
  | (u, r) :: e, hb, h => by
    simp only [Env.get] at h
    split at h
    · simp only [Option.some.injEq] at h; subst h; exact hb.1
    · exact bndE_get hb.2 h
theorem RelE.maps {ν ν' : Nm} {τ : Nat → Nat} {nt : Nat} {e : Env} {tm : Array Value} (g : Maps ν ν' τ) (h : RelE ν nt e tm) : RelE ν' nt (renE τ e) tm :=
  ⟨h.1, fun t s hs => by
    rw [renE_get] at hs
    simp only [Option.map_eq_some_iff] at hs
    obtain ⟨u, h1, rfl⟩ := hs
    obtain ⟨y, h2, h3⟩ := h.2 t u h1
    exact ⟨y, h2, h3.maps g⟩⟩
theorem RelE.via {ν : Nm} {m : Nat} {σ : Nat → Nat} {nt : Nat} {e : Env} {tm : Array Value} (hb : bndE m e) (h : RelE ν nt (renE σ e) tm) : RelE (ν.via m σ) nt e tm :=
  ⟨h.1, fun t s hs => by
    obtain ⟨y, h2, h3⟩ := h.2 t (s.ren σ) (by rw [renE_get, hs]; rfl)
    exact ⟨y, h2, h3.via _ _ (bndE_get hb hs)⟩⟩
theorem MapOK.ro {ν ν' : Nm} {ag : Bool} {ks : List IntKind} {f : List Int → Option SV} {es : List MapEntry} {clock : Nat} (h : MapOK ν ag ks f es clock) (g : Grows ν.free ν'.free) : MapOK ν' ag ks f es clock :=
  ⟨h.one, fun e he => let ⟨ns, s, h1, h2, h3, h4⟩ := h.in_ e he; ⟨ns, s, h1, h2, h3, h4.grows g⟩, h.out, h.nd, h.bd, h.bn⟩

theorem BlkOK.maps {ν ν' : Nm} {w : World} {τ : Nat → Nat} {i : Nat} {b : Blk} (g : Maps ν ν' τ) (h : BlkOK ν w i b) : BlkOK ν' w (τ i) (b.ren τ) := by
  obtain ⟨a, e1⟩ := g.1 i h.lt
  cases b with
  | own cells T =>
    obtain ⟨_, c, h2, h3⟩ := h
    exact ⟨a, c, by rw [e1]; exact h2, h3.maps g⟩
  | row sz cap T xs =>
    obtain ⟨_, h1, h2, ys, h3, h4, h5⟩ := h
    refine ⟨a, h1, h2, ys, h3.grows g.free, h4, fun hc => ?_⟩
    obtain ⟨c, h6⟩ := h5 hc
    exact ⟨c, by rw [e1]; exact h6.1, h6.2⟩
  | map ag ks f =>
    obtain ⟨_, es, clock, h1, h2⟩ := h
    exact ⟨a, es, clock, by rw [e1]; exact h1, h2.ro g.free⟩
  | loop st pend fn nt env params assign body d =>
    obtain ⟨_, hd, tm, h1, h2⟩ := h
    obtain ⟨d1, d2⟩ := g.1 d hd
    exact ⟨a, d1, tm, by rw [e1, d2]; exact h1, h2.maps g⟩
  | obj o =>
    obtain ⟨_, h1, h2⟩ := h
    exact ⟨a, h1, by rw [e1]; exact h2⟩
  | iter m clock seen =>
    obtain ⟨_, hm, h2⟩ := h
    obtain ⟨d1, d2⟩ := g.1 m hm
    exact ⟨a, d1, by rw [e1, d2]; exact h2⟩
theorem BlkOK.via {ν : Nm} {w : World} {m : Nat} {σ : Nat → Nat} {i : Nat} {b : Blk} (hi : i < m) (hb : b.bnd m) (h : BlkOK ν w (σ i) (b.ren σ)) : BlkOK (ν.via m σ) w i b := by
  cases b with
  | own cells T =>
    obtain ⟨_, c, h2, h3⟩ := h
    exact ⟨hi, c, h2, h3.via _ _ hb⟩
  | row sz cap T xs =>
    obtain ⟨_, h1, h2, ys, h3, h4, h5⟩ := h
    exact ⟨hi, h1, h2, ys, h3.grows (via_free _ _ _), h4, h5⟩
  | map ag ks f =>
    obtain ⟨_, es, clock, h1, h2⟩ := h
    exact ⟨hi, es, clock, h1, h2.ro (via_free _ _ _)⟩
  | loop st pend fn nt env params assign body d =>
    obtain ⟨_, hd, tm, h1, h2⟩ := h
    exact ⟨hi, hb.2, tm, h1, h2.via hb.1⟩
  | obj o => exact ⟨hi, h.2⟩
  | iter j clock seen =>
    obtain ⟨_, _, h2⟩ := h
    exact ⟨hi, hb, h2⟩
theorem ren_real {b : Blk} {τ : Nat → Nat} : (b.ren τ).real ↔ b.real := by cases b <;> exact Iff.rfl
theorem renH_get {τ : Nat → Nat} : ∀ {H : Heap} {j : Nat} {b : Blk}, (renH τ H).get j = some b → ∃ i c, (i, c) ∈ H ∧ j = τ i ∧ b = c.ren τ
  | [], j, b, h => by simp [renH, Heap.get] at h
  | (i, c) :: H, j, b, h => by
    simp only [renH, Heap.get] at h
    split at h
    · rename_i e
      simp only [Option.some.injEq] at h
      exact ⟨i, c, by simp, e.symm, h.symm⟩
    · obtain ⟨i', c', h1, h2, h3⟩ := renH_get h
      exact ⟨i', c', by simp [h1], h2, h3⟩

/-- What is owed where a state is met that is known already, under other names. -/
def HeapVia (m : Nat) (σ : Nat → Nat) (H H' : Heap) : Prop := ∀ i b, H.get i = some b → i < m ∧ b.bnd m ∧ H'.get (σ i) = some (b.ren σ)
def EnvVia (m : Nat) (σ : Nat → Nat) (e e' : Env) : Prop := ∀ t s, e.get t = some s → s.bnd m ∧ e'.get t = some (s.ren σ)
theorem HeapVia.nil {m : Nat} {σ : Nat → Nat} {H' : Heap} : HeapVia m σ [] H' := fun _ _ h => by simp [Heap.get] at h
theorem HeapVia.cons {m : Nat} {σ : Nat → Nat} {H H' : Heap} {i : Nat} {b : Blk} (h1 : i < m) (h2 : b.bnd m) (h3 : H'.get (σ i) = some (b.ren σ)) (h : HeapVia m σ H H') : HeapVia m σ ((i, b) :: H) H' := by
  intro j c hc
  simp only [Heap.get] at hc
  split at hc
  · rename_i e; subst e; simp only [Option.some.injEq] at hc; subst hc; exact ⟨h1, h2, h3⟩
  · exact h j c hc
theorem EnvVia.nil {m : Nat} {σ : Nat → Nat} {e : Env} : EnvVia m σ [] e := fun _ _ h => by simp [Env.get] at h
theorem EnvVia.cons {m : Nat} {σ : Nat → Nat} {e e' : Env} {t : Nat} {s : SV} (h1 : s.bnd m) (h2 : e'.get t = some (s.ren σ)) (h : EnvVia m σ e e') : EnvVia m σ ((t, s) :: e) e' := by
  intro u r hr
  simp only [Env.get] at hr
  split at hr
  · rename_i e; subst e; simp only [Option.some.injEq] at hr; subst hr; exact ⟨h1, h2⟩
  · exact h u r hr

theorem Holds.via {x : Ctx} {ν : Nm} {H H' : Heap} {w : World} {m : Nat} {σ : Nat → Nat} (h : Holds x ν H' w) (hv : HeapVia m σ H H') (hinj : ∀ i j, i < m → j < m → σ i = σ j → i = j)
    (hanc : x.nm.nx ≤ m ∧ ∀ i, i < x.nm.nx → σ i = i) : Holds x (ν.via m σ) H w where
  ok i b hb := by
    obtain ⟨h1, h2, h3⟩ := hv i b hb
    exact (h.ok _ _ h3).via h1 h2
  sep i b j c hb hc hne he hp := by
    obtain ⟨h1, h2, h3⟩ := hv i b hb
    obtain ⟨k1, k2, k3⟩ := hv j c hc
    exact h.sep _ _ _ _ h3 k3 (fun e => hne (hinj i j h1 k1 e)) (ren_real.2 he) (ren_real.2 hp)
  mine i b hb he := by
    obtain ⟨h1, h2, h3⟩ := hv i b hb
    exact h.mine _ _ h3 (ren_real.2 he)
  ro := h.ro
  rosep i b hb he := by
    obtain ⟨h1, h2, h3⟩ := hv i b hb
    exact h.rosep _ _ h3 (ren_real.2 he)
  ronew := h.ronew
  gl := h.gl
  frame := h.frame
  size := h.size
  fix := h.fix
  anc := ⟨hanc.1, fun i hi => by
    show ν.blk (σ i) = _
    rw [hanc.2 i hi]; exact h.anc.2.1 i hi, h.anc.2.2⟩

/-- A STATE THAT IS KNOWN ALREADY, under other names and with less known of it. -/
theorem Sat.via {κ : Kx} {x : Ctx} {k : List Item} {e e' : Env} {H H' : Heap} {m n : Nat} {dfs dfs' : List Nat} (σ : Nat → Nat) (hs : Sat κ x ⟨k, e, H, m, dfs⟩) (hinj : ∀ i j, i < m → j < m → σ i = σ j → i = j)
    (he : EnvVia m σ e e') (hh : HeapVia m σ H H') (hanc : x.nm.nx ≤ m ∧ ∀ i, i < x.nm.nx → σ i = i) (hd : (∀ i ∈ dfs, i < m) ∧ dfs' = dfs.map σ) : Sat κ x ⟨k, e', H', n, dfs'⟩ :=
  fun ν w a _ hH hE hD => hs (ν.via m σ) w a rfl (hH.via hh hinj hanc) ⟨hE.1, fun t s ht => by
    obtain ⟨h1, h2⟩ := he t s ht
    obtain ⟨y, h3, h4⟩ := hE.2 t _ h2
    exact ⟨y, h3, h4.via _ _ h1⟩⟩ ⟨hd.1, by
      obtain ⟨_, rfl⟩ := hd
      rw [hD.2, List.map_map]; rfl⟩

/-- The blocks that a heap may write. -/
def feet (ν : Nm) (H : Heap) (k : Nat) : Prop := ∃ i b, H.get i = some b ∧ b.real ∧ ν.blk i = k
/-- The heap without some names. -/
def without (l : List Nat) : Heap → Heap
  | [] => []
  | (i, b) :: H => if i ∈ l then without l H else (i, b) :: without l H
theorem without_get {l : List Nat} : ∀ {H : Heap} {j : Nat} {b : Blk}, (without l H).get j = some b → j ∉ l ∧ H.get j = some b
  | [], j, b, h => by simp [without, Heap.get] at h
  | (i, c) :: H, j, b, h => by
    simp only [without] at h
    split at h
    · rename_i hi
      obtain ⟨h1, h2⟩ := without_get h
      refine ⟨h1, ?_⟩
      simp only [Heap.get]
      rw [if_neg (show ¬ i = j from fun e => h1 (e ▸ hi))]; exact h2
    · rename_i hi
      simp only [Heap.get] at h ⊢
      split at h
      · rename_i e; subst e; exact ⟨hi, by simpa using h⟩
      · rename_i e
        obtain ⟨h1, h2⟩ := without_get h
        exact ⟨h1, by rw [if_neg e]; exact h2⟩
theorem append_get : ∀ {H G : Heap} {j : Nat} {b : Blk}, (Heap.get (H ++ G) j) = some b → H.get j = some b ∨ (H.get j = none ∧ G.get j = some b)
  | [], G, j, b, h => .inr ⟨rfl, h⟩
  | (i, c) :: H, G, j, b, h => by
    simp only [List.cons_append, Heap.get] at h ⊢
    split at h
    · rename_i e; rw [if_pos e]; exact .inl h
    · rename_i e; rw [if_neg e]; exact append_get h

/-- How the names of a call are called behind it. -/
def tau (m nx : Nat) (σ : Nat → Nat) (i : Nat) : Nat := if i < m then σ i else nx + (i - m)

/-- The surroundings of a call that is handed these blocks. -/
def ctxOf (gl : Gl) (ν : Nm) (H : Heap) (w : World) : Ctx := ⟨w, feet ν H, ν, gl⟩

/-- A part of the heap has been handed to a call, and comes back. 'V': blocks that were lent to it, to be read. -/
theorem Holds.back {x : Ctx} {ν ν' : Nm} {H H2 H' : Heap} {w w' : World} {m : Nat} {σ : Nat → Nat} {l : List Nat} (h : Holds x ν H w) (hσ : ∀ i, i < m → σ i < ν.nx)
    (hv : ∀ i b, H2.get i = some b → i < m ∧ σ i ∈ l ∧ H.get (σ i) = some (b.ren σ)) (hg : Grows (ν.via m σ) ν') (h' : Holds (ctxOf x.gl (ν.via m σ) H2 w) ν' H' w')
    (hnd : ∀ i b, (i, b) ∈ H' → H'.get i = some b) :
    ∃ ν'', ν''.nx = ν.nx + (ν'.nx - m) ∧ Grows ν ν'' ∧ Maps ν' ν'' (tau m ν.nx σ) ∧ Holds x ν'' (renH (tau m ν.nx σ) H' ++ without l H) w' := by
  have hm : m ≤ ν'.nx := hg.1
  let ν'' : Nm := ⟨ν.nx + (ν'.nx - m), fun i => if i < ν.nx then ν.blk i else ν'.blk (i - ν.nx + m), ν'.ro⟩
  have gr : Grows ν ν'' := ⟨Nat.le_add_right _ _, fun i hi => by simp [ν'', hi], hg.2.2⟩
  have mp : Maps ν' ν'' (tau m ν.nx σ) := by
    refine ⟨fun i hi => ?_, fun _ _ h => h⟩
    unfold tau
    by_cases him : i < m
    · have h1 := hσ i him
      have e1 := hg.2.1 i him
      simp only [him, if_true, ν'', h1]
      exact ⟨Nat.lt_of_lt_of_le h1 (Nat.le_add_right _ _), e1.symm⟩
    · have e : ν.nx + (i - m) - ν.nx + m = i := by omega
      have hlt : i - m < ν'.nx - m := by omega
      simp only [him, if_false, ν'', show ¬ ν.nx + (i - m) < ν.nx by omega, e]
      exact ⟨Nat.add_lt_add_left hlt _, trivial⟩
  have feet_mine : ∀ k, feet (ν.via m σ) H2 k → ∃ j b, j ∈ l ∧ H.get j = some b ∧ b.real ∧ ν.blk j = k := by
    rintro k ⟨i, b, h1, h2, h3⟩
    obtain ⟨_, q1, q2⟩ := hv i b h1
    exact ⟨σ i, b.ren σ, q1, q2, ren_real.2 h2, h3⟩
  have hw : ∀ k, k < w.heap.size → ¬ feet (ν.via m σ) H2 k → w'.heap[k]? = w.heap[k]? := h'.frame
  -- what stays keeps clear of what was handed over
  have clear : ∀ j b, (without l H).get j = some b → b.real → ¬ feet (ν.via m σ) H2 (ν.blk j) := by
    intro j b hb hp hf
    obtain ⟨hnl, hb⟩ := without_get hb
    obtain ⟨j', b', q0, q1, q2, q3⟩ := feet_mine _ hf
    exact h.sep j' b' j b q1 hb (fun e => hnl (e ▸ q0)) q2 hp q3
  have mine' : ∀ i b, H'.get i = some b → b.real → w.heap.size ≤ ν'.blk i ∨ feet (ν.via m σ) H2 (ν'.blk i) := h'.mine
  refine ⟨ν'', rfl, gr, mp, ⟨fun j b hb => ?_, fun i b j c hb hc hne he hp => ?_, fun j b hb he => ?_, h'.ro, fun j b hb he => ?_, fun k c hk => ?_, h'.gl, fun k h1 h2 => ?_, Nat.le_trans h.size h'.size, h.fix.trans h'.fix, h.anc.trans gr⟩⟩
  · rcases append_get hb with hb | ⟨_, hb⟩
    · obtain ⟨i, c, h1, rfl, rfl⟩ := renH_get hb
      exact (h'.ok i c (hnd i c h1)).maps mp
    · exact (h.ok j b (without_get hb).2).keep gr (fun hp => hw _ ((h.ok j b (without_get hb).2).inside hp) (clear j b hb hp))
  · rcases append_get hb with hb | ⟨_, hb⟩
    · obtain ⟨i', b', h1, rfl, rfl⟩ := renH_get hb
      have hb' := hnd i' b' h1
      rw [(mp.1 i' (h'.lt hb')).2]
      rcases append_get hc with hc | ⟨_, hc⟩
      · obtain ⟨j', c', q1, rfl, rfl⟩ := renH_get hc
        have hc' := hnd j' c' q1
        rw [(mp.1 j' (h'.lt hc')).2]
        exact h'.sep i' b' j' c' hb' hc' (fun e => hne (by rw [e])) (ren_real.1 he) (ren_real.1 hp)
      · have hcl := (without_get hc).2
        rw [gr.2.1 j (h.lt hcl)]
        intro heq
        rcases mine' i' b' hb' (ren_real.1 he) with hge | hf
        · have := (h.ok j c hcl).inside hp; omega
        · exact clear j c hc hp (heq ▸ hf)
    · have hbl := (without_get hb).2
      rw [gr.2.1 i (h.lt hbl)]
      rcases append_get hc with hc | ⟨_, hc⟩
      · obtain ⟨j', c', q1, rfl, rfl⟩ := renH_get hc
        have hc' := hnd j' c' q1
        rw [(mp.1 j' (h'.lt hc')).2]
        intro heq
        rcases mine' j' c' hc' (ren_real.1 hp) with hge | hf
        · have := (h.ok i b hbl).inside he; omega
        · exact clear i b hb he (heq ▸ hf)
      · have hcl := (without_get hc).2
        rw [gr.2.1 j (h.lt hcl)]
        exact h.sep i b j c hbl hcl hne he hp
  · rcases append_get hb with hb | ⟨_, hb⟩
    · obtain ⟨i', b', h1, rfl, rfl⟩ := renH_get hb
      have hb' := hnd i' b' h1
      rw [(mp.1 i' (h'.lt hb')).2]
      rcases mine' i' b' hb' (ren_real.1 he) with hge | hf
      · exact .inl (Nat.le_trans h.size hge)
      · obtain ⟨j', b'', _, q1, q2, q3⟩ := feet_mine _ hf
        rw [← q3]; exact h.mine j' b'' q1 q2
    · have hbl := (without_get hb).2
      rw [gr.2.1 j (h.lt hbl)]
      exact h.mine j b hbl he
  · rcases append_get hb with hb | ⟨_, hb⟩
    · obtain ⟨i', b', h1, rfl, rfl⟩ := renH_get hb
      have hb' := hnd i' b' h1
      rw [(mp.1 i' (h'.lt hb')).2]
      exact h'.rosep i' b' hb' (ren_real.1 he)
    · have hbl := (without_get hb).2
      rw [gr.2.1 j (h.lt hbl)]
      show ν'.ro (ν.blk j) = none
      cases hr : ν'.ro (ν.blk j) with
      | none => rfl
      | some c =>
        exfalso
        rcases h'.ronew _ c hr with h1 | h1 | h1
        · have : ν.ro (ν.blk j) = some c := h1
          rw [h.rosep j b hbl he] at this; cases this
        · have := (h.ok j b hbl).inside he
          have h1 : w.heap.size ≤ ν.blk j := h1
          omega
        · exact clear j b hb he h1
  · rcases h'.ronew k c hk with h1 | h1 | h1
    · exact h.ronew k c h1
    · exact .inr (.inl (Nat.le_trans h.size h1))
    · obtain ⟨j', b'', _, q1, q2, q3⟩ := feet_mine _ h1
      rw [← q3]; exact .inr (h.mine j' b'' q1 q2)
  · rw [hw k (Nat.lt_of_lt_of_le h1 h.size) (fun hf => ?_)]
    · exact h.frame k h1 h2
    · obtain ⟨j', b'', _, q1, q2, q3⟩ := feet_mine k hf
      rcases h.mine j' b'' q1 q2 with h3 | h3
      · omega
      · exact h2 (q3 ▸ h3)

/-- What is handed to a call, as the call sees it. -/
theorem Holds.hand {x : Ctx} {ν : Nm} {H H2 : Heap} {w : World} {m : Nat} {σ : Nat → Nat} (h : Holds x ν H w) (hinj : ∀ i j, i < m → j < m → σ i = σ j → i = j)
    (hv : ∀ i b, H2.get i = some b → i < m ∧ b.bnd m ∧ H.get (σ i) = some (b.ren σ)) : Holds (ctxOf x.gl (ν.via m σ) H2 w) (ν.via m σ) H2 w where
  ok i b hb := (h.ok _ _ (hv i b hb).2.2).via (hv i b hb).1 (hv i b hb).2.1
  sep i b j c hb hc hne he hp := by
    obtain ⟨h1, _, h3⟩ := hv i b hb
    obtain ⟨k1, _, k3⟩ := hv j c hc
    exact h.sep _ _ _ _ h3 k3 (fun e => hne (hinj i j h1 k1 e)) (ren_real.2 he) (ren_real.2 hp)
  mine i b hb he := .inr ⟨i, b, hb, he, rfl⟩
  ro := h.ro
  rosep i b hb he := h.rosep _ _ (hv i b hb).2.2 (ren_real.2 he)
  ronew k c hk := .inl hk
  gl := h.gl
  frame _ _ _ := rfl
  size := Nat.le_refl _
  fix := .refl _
  anc := .refl _

theorem renL_length (τ : Nat → Nat) : ∀ l, (SV.renL τ l).length = l.length
  | [] => rfl
  | x :: l => by simp [SV.renL, renL_length τ l]

/- contracts -/
/-- The frame of a call of a function with these results: what holds where it ends. -/
structure Ends (κ : Kx) (x : Ctx) (P : Program) (gl : Gl) (nt : Nat) (res : List ResultVar) (m : Nat) (R : SV → Heap → Nat → Prop) : Prop where
  hP : κ.P = P
  hn : κ.nt = nt
  hgl : x.gl = gl
  hm : x.nm.nx = m
  hro : κ.b.roundOf = none
  ret : ∀ (k : List Item) (env : Env) (H : Heap) (nx : Nat) (dfs : List Nat) (ss : List SV), defOK H dfs → resOf P env (dropL dfs H) res = some ss → R (resV ss) (dropL dfs H) nx → Sat κ x ⟨.code .ret :: k, env, H, nx, dfs⟩
  fin : ∀ (env : Env) (H : Heap) (nx : Nat) (dfs : List Nat) (ss : List SV), defOK H dfs → resOf P env (dropL dfs H) res = some ss → R (resV ss) (dropL dfs H) nx → Sat κ x ⟨[], env, H, nx, dfs⟩

theorem Ends.run {κ : Kx} {x : Ctx} {P : Program} {gl : Gl} {nt m : Nat} {res : List ResultVar} {R : SV → Heap → Nat → Prop} (e : Ends κ x P gl nt res m R) {c : Cfg} (n : Nat) (h : OutOK κ x (exec P gl nt n c)) : Sat κ x c := by
  obtain ⟨rfl, rfl, rfl, _, _, _, _⟩ := e
  exact exec_sound n c h

/-- A FUNCTION IS WALKED. -/
theorem calls_of {P : Program} {f : FuncId} {fn : Func} {c : Code} {x : Ctx} {ν : Nm} {H : Heap} {w : World} {args : List SV} {vs : List Value} {R : SV → Heap → Nat → Prop} {nt : Nat} {res : List ResultVar}
    (hm : P.follows .mixedOrders = true) (hf : P.funcs[f]? = some fn) (hb : fn.body = some c) (hnt : fn.ntmps = nt) (hres : fn.results.toList = res) (hlen : Nat.ble vs.length nt = true) (hH : Holds x ν H w) (ha : RelL ν args vs) (hx : x.nm = ν)
    (h : ∀ κ, Ends κ x P x.gl nt res ν.nx R → Sat κ x ⟨[.code c], envOf 0 args, H, ν.nx, []⟩) : Calls P f vs.toArray w fun e w' => ∃ v, e = .returned v ∧ ∃ ν' s H', R s H' ν'.nx ∧ Grows ν ν' ∧ Holds x ν' H' w' ∧ Rel ν' s v := by
  refine calls_of_sat hf hb (by rw [hnt]; exact Nat.le_of_ble_eq_true hlen) hH ha hm fun cs => h _ ⟨rfl, hnt, rfl, by rw [hx], rfl, fun k env H nx dfs ss h0 h1 h2 => Sat.ret hf h0 (by rw [hres]; exact h1) fun ν' w' v hn hH' hr => ?_, fun env H nx dfs ss h0 h1 h2 => Sat.fin hf h0 (by rw [hres]; exact h1) fun ν' w' v hn hH' hr => ?_⟩
  · exact ⟨ν', _, _, by rw [hn]; exact h2, by rw [← hx]; exact hH'.anc, hH', hr⟩
  · exact ⟨ν', _, _, by rw [hn]; exact h2, by rw [← hx]; exact hH'.anc, hH', hr⟩

/-- Facts on a function of the program. -/
def FnOK (P : Program) (g : FuncId) : Prop := ∃ fn, P.funcs[g]? = some fn ∧ fn.body.isNone = false ∧ (fn.name == "runtime.NumGoroutine") = false
/-- A plain function. -/
def fnv (g : FuncId) : SV := .v (.func (.func g) #[] #[])

/-- WHAT A FUNCTION DOES: called with these over these blocks (their names are the first m ones) it comes back with s, H', nx' of which Q holds. -/
def Con (P : Program) (gl : Gl) (f : SV) (args : List SV) (m : Nat) (H : Heap) (Q : SV → Heap → Nat → Prop) : Prop :=
  ∀ (ν : Nm) (w : World) (fv : Value) (vs : List Value), ν.nx = m → Holds (ctxOf gl ν H w) ν H w → Rel ν f fv → RelL ν args vs →
    CallsV P fv vs.toArray w fun v w' => ∃ ν' s H', Q s H' ν'.nx ∧ Grows ν ν' ∧ Holds (ctxOf gl ν H w) ν' H' w' ∧ Rel ν' s v

/-- At a function's end: what is known of it shows what is asked. -/
def Post (m : Nat) (Q : SV → Heap → Nat → Prop) (s : SV) (H : Heap) (nx : Nat) : Prop :=
  ∀ (x : Ctx) (ν ν' : Nm) (w : World) (v : Value), x.nm = ν → ν.nx = m → ν'.nx = nx → Grows ν ν' → Holds x ν' H w → Rel ν' s v → ∃ ν' s H', Q s H' ν'.nx ∧ Grows ν ν' ∧ Holds x ν' H' w ∧ Rel ν' s v

mutual
theorem SV.bnd_mono {m n : Nat} (hmn : m ≤ n) : ∀ s : SV, s.bnd m → s.bnd n
  | .v _, _ => trivial
  | .rd .., _ => trivial
  | .rp .., _ => trivial
  | .arr .., _ => trivial
  | .ptr .., h => Nat.lt_of_lt_of_le h hmn
  | .sl .., h => Nat.lt_of_lt_of_le h hmn
  | .mp .., h => Nat.lt_of_lt_of_le h hmn
  | .yl .., h => Nat.lt_of_lt_of_le h hmn
  | .fn _ a b, h => ⟨SV.bndL_mono hmn a h.1, SV.bndL_mono hmn b h.2⟩
  | .agg l, h => SV.bndL_mono hmn l h
  | .tup l, h => SV.bndL_mono hmn l h
theorem SV.bndL_mono {m n : Nat} (hmn : m ≤ n) : ∀ s : List SV, SV.bndL m s → SV.bndL n s
  | [], _ => trivial
  | x :: l, h => ⟨SV.bnd_mono hmn x h.1, SV.bndL_mono hmn l h.2⟩
end
mutual
theorem SV.ren_id : ∀ s : SV, s.ren id = s
  | .v _ => rfl
  | .rd .. => rfl
  | .rp .. => rfl
  | .arr .. => rfl
  | .ptr .. => rfl
  | .sl .. => rfl
  | .mp .. => rfl
  | .yl .. => rfl
  | .fn f a b => by simp only [SV.ren, SV.renL_id]
  | .agg l => by simp only [SV.ren, SV.renL_id]
  | .tup l => by simp only [SV.ren, SV.renL_id]
theorem SV.renL_id : ∀ s : List SV, SV.renL id s = s
  | [] => rfl
  | x :: l => by simp only [SV.renL, SV.ren_id, SV.renL_id]
end
mutual
theorem SV.ren_bnd {σ τ : Nat → Nat} {m : Nat} (h : ∀ i, i < m → σ i = τ i) : ∀ s : SV, s.bnd m → s.ren σ = s.ren τ
  | .v _, _ => rfl
  | .rd .., _ => rfl
  | .rp .., _ => rfl
  | .arr .., _ => rfl
  | .ptr id _ _ _, hb => by simp only [SV.ren, h id hb]
  | .sl id _ _ _ _, hb => by simp only [SV.ren, h id hb]
  | .mp id, hb => by simp only [SV.ren, h id hb]
  | .yl id, hb => by simp only [SV.ren, h id hb]
  | .fn f a b, hb => by simp only [SV.ren, SV.renL_bnd h a hb.1, SV.renL_bnd h b hb.2]
  | .agg l, hb => by simp only [SV.ren, SV.renL_bnd h l hb]
  | .tup l, hb => by simp only [SV.ren, SV.renL_bnd h l hb]
theorem SV.renL_bnd {σ τ : Nat → Nat} {m : Nat} (h : ∀ i, i < m → σ i = τ i) : ∀ s : List SV, SV.bndL m s → SV.renL σ s = SV.renL τ s
  | [], _ => rfl
  | x :: l, hb => by simp only [SV.renL, SV.ren_bnd h x hb.1, SV.renL_bnd h l hb.2]
end
/-- It names no block. -/
abbrev SV.closed (s : SV) : Prop := s.bnd 0
theorem SV.ren_closed {s : SV} (h : s.closed) (σ : Nat → Nat) : s.ren σ = s := by
  rw [SV.ren_bnd (σ := σ) (τ := id) (m := 0) (fun i hi => absurd hi (Nat.not_lt_zero i)) s h, SV.ren_id]

theorem Post.same {m : Nat} {Q : SV → Heap → Nat → Prop} {s : SV} {H H' : Heap} {nx : Nat} (h : Q s H' nx) (hs : HeapSub H' H) : Post m Q s H nx :=
  fun _ _ ν' _ _ _ _ hn hg hH hv => ⟨ν', s, H', by rw [hn]; exact h, hg, hH.less hs, hv⟩
theorem Post.via {m : Nat} {Q : SV → Heap → Nat → Prop} {s : SV} {H : Heap} {nx : Nat} (m' : Nat) (τ : Nat → Nat) (s' : SV) (H' : Heap) (h : Q s' H' m') (hs : s = s'.ren τ) (hb : s'.bnd m') (hinj : ∀ i j, i < m' → j < m' → τ i = τ j → i = j) (hv : HeapVia m' τ H' H) (hm : m ≤ m' ∧ ∀ i, i < m → τ i = i) : Post m Q s H nx := by
  intro x ν ν' w v hx hm2 hn hg hH hr
  subst hs
  have hv' := hH.via hv hinj (by rw [hx, hm2]; exact hm)
  refine ⟨ν'.via m' τ, s', H', h, ?_, hv', hr.via _ _ hb⟩
  have := hv'.anc
  rwa [hx] at this
theorem Post.pure {m : Nat} {Q : SV → Heap → Nat → Prop} {s : SV} {H : Heap} {nx : Nat} (hb : s.closed) (h : Q s [] m) : Post m Q s H nx :=
  .via m id s [] h (SV.ren_id s).symm (SV.bnd_mono (Nat.zero_le m) s hb) (fun i j _ _ e => e) .nil ⟨Nat.le_refl _, fun i _ => rfl⟩

/-- A FUNCTION'S CONTRACT IS SHOWN BY A WALK. -/
theorem Con.of {P : Program} {gl : Gl} {g : FuncId} {fn : Func} {c : Code} {args : List SV} {m : Nat} {H : Heap} {Q : SV → Heap → Nat → Prop} {nt : Nat} {res : List ResultVar} (hg : FnOK P g)
    (hm : P.follows .mixedOrders = true) (hf : P.funcs[g]? = some fn) (hb : fn.body = some c) (hnt : fn.ntmps = nt) (hres : fn.results.toList = res) (hlen : Nat.ble args.length nt = true)
    (h : ∀ κ x, Ends κ x P gl nt res m (Post m Q) → Sat κ x ⟨[.code c], envOf 0 args, H, m, []⟩) : Con P gl (fnv g) args m H Q := by
  intro ν w fv vs hn hH hfv hvs
  simp only [fnv, Rel] at hfv
  subst hfv
  subst hn
  obtain ⟨fn', h1, h2, h3⟩ := hg
  refine .of_calls h1 h2 h3 ?_
  have := calls_of (R := Post ν.nx Q) hm hf hb hnt hres (by rw [hvs.length]; exact hlen) hH hvs rfl (fun κ e => h κ _ e)
  simp only [List.append_toArray, Array.empty_append, Array.append_empty]
  refine this.mono ?_
  rintro e w' ⟨v, rfl, ν', s, H', hq, hgr, hH', hv⟩
  exact ⟨v, rfl, hq _ _ _ _ _ rfl rfl rfl hgr hH' hv⟩
/-- A closure's contract. -/
theorem Con.clo {P : Program} {gl : Gl} {g : FuncId} {fn : Func} {c : Code} {args caps : List SV} {m : Nat} {H : Heap} {Q : SV → Heap → Nat → Prop} {nt : Nat} {res : List ResultVar} (hg : FnOK P g)
    (hm : P.follows .mixedOrders = true) (hf : P.funcs[g]? = some fn) (hb : fn.body = some c) (hnt : fn.ntmps = nt) (hres : fn.results.toList = res) (hlen : Nat.ble (args ++ caps).length nt = true)
    (h : ∀ κ x, Ends κ x P gl nt res m (Post m Q) → Sat κ x ⟨[.code c], envOf 0 (args ++ caps), H, m, []⟩) : Con P gl (.fn (.func g) [] caps) args m H Q := by
  intro ν w fv vs hn hH hfv hvs
  simp only [Rel, RelL] at hfv
  obtain ⟨fs, cs, rfl, hfs, hcs⟩ := hfv
  subst hn
  obtain ⟨fn', h1, h2, h3⟩ := hg
  refine .of_calls h1 h2 h3 ?_
  have hall := hvs.append hcs
  have := calls_of (R := Post ν.nx Q) hm hf hb hnt hres (by rw [hall.length]; exact hlen) hH hall rfl (fun κ e => h κ _ e)
  have e1 : fs ++ vs.toArray ++ cs = (vs ++ cs.toList).toArray := by
    have h7 : fs = #[] := by
      apply Array.toList_inj.1
      rw [hfs]
    rw [h7]; simp
  rw [e1]
  refine this.mono ?_
  rintro e w' ⟨v, rfl, ν', s, H', hq, hgr, hH', hv⟩
  exact ⟨v, rfl, hq _ _ _ _ _ rfl rfl rfl hgr hH' hv⟩
theorem Con.mono {P : Program} {gl : Gl} {f : SV} {args : List SV} {m : Nat} {H : Heap} {Q Q' : SV → Heap → Nat → Prop} (h : Con P gl f args m H Q) (hq : ∀ s H n, Q s H n → Q' s H n) : Con P gl f args m H Q' :=
  fun ν w fv vs h1 h2 h3 h4 => (h ν w fv vs h1 h2 h3 h4).mono fun v w' ⟨ν', s, H', k1, k2⟩ => ⟨ν', s, H', hq _ _ _ k1, k2⟩

/-- Names that are given once. -/
def Once (H : Heap) : Prop := ∀ i b, (i, b) ∈ H → H.get i = some b
theorem Once.nil : Once [] := fun _ _ h => by simp at h
theorem Once.cons {i : Nat} {b : Blk} {H : Heap} (h3 : ∀ c, (i, c) ∉ H) (h : Once H) : Once ((i, b) :: H) := by
  intro j c hc
  simp only [List.mem_cons, Prod.mk.injEq] at hc
  rcases hc with ⟨rfl, rfl⟩ | hc
  · simp [Heap.get]
  · simp only [Heap.get]
    rw [if_neg (show ¬ i = j from fun e => h3 c (e ▸ hc))]
    exact h j c hc

/-- A CALL BY CONTRACT. m names of the caller's are handed over: i is called σ i here. -/
theorem Does.fn {P0 : Program} {x : Ctx} {f : SV} {args : List SV} {nx : Nat} {H : Heap} {K : SV → Heap → Nat → Prop} {P : Program} {gl : Gl} (hP : P0 = P) (hgl : x.gl = gl) (m : Nat) (σ : Nat → Nat) (l : List Nat) (f0 : SV) (args0 : List SV) (H0 : Heap) {Q : SV → Heap → Nat → Prop}
    (h : Con P gl f0 args0 m H0 Q) (hf : f = f0.ren σ) (hargs : args = SV.renL σ args0) (hbf : f0.bnd m) (hba : SV.bndL m args0) (hσ : ∀ i, i < m → σ i < nx) (hinj : ∀ i j, i < m → j < m → σ i = σ j → i = j)
    (hv : ∀ i b, H0.get i = some b → i < m ∧ b.bnd m ∧ σ i ∈ l ∧ H.get (σ i) = some (b.ren σ))
    (next : ∀ s H' n', Q s H' n' → Once H' ∧ (m ≤ n' → K (s.ren (tau m nx σ)) (renH (tau m nx σ) H' ++ without l H) (nx + (n' - m)))) : Does P0 x f args nx H K := by
  intro ν w fv vs hn hH hfv hvs
  subst hP hgl hf hargs
  have hH2 := hH.hand hinj (fun i b hb => ⟨(hv i b hb).1, (hv i b hb).2.1, (hv i b hb).2.2.2⟩)
  refine (h (ν.via m σ) w fv vs rfl hH2 (hfv.via _ _ hbf) (hvs.via _ _ hba)).mono ?_
  rintro v w' ⟨ν', s, H', hq, hgr, hH', hs⟩
  obtain ⟨honce, hsat⟩ := next s H' _ hq
  obtain ⟨ν'', h1, h2, h3, h4⟩ := hH.back (hn ▸ hσ) (fun i b hb => ⟨(hv i b hb).1, (hv i b hb).2.2.1, (hv i b hb).2.2.2⟩) hgr hH' honce
  rw [hn] at h1 h3 h4
  exact ⟨ν'', _, _, h2, h4, hs.maps h3, by rw [h1]; exact hsat hgr.1⟩

theorem without_nil : ∀ H : Heap, without [] H = H
  | [] => rfl
  | (i, b) :: H => by simp [without, without_nil H]

/-- A call that looks at no block, by contract; its result names none. -/
theorem Does.pure {P0 : Program} {x : Ctx} {f : SV} {args : List SV} {nx : Nat} {H : Heap} {K : SV → Heap → Nat → Prop} {P : Program} {gl : Gl} (hP : P0 = P) (hgl : x.gl = gl) {Q : SV → Heap → Nat → Prop} (h : Con P gl f args 0 [] Q) (hbf : f.closed) (hba : SV.bndL 0 args)
    (next : ∀ s H' n', Q s H' n' → (s.closed ∧ H' = [] ∧ n' = 0) ∧ K s H nx) : Does P0 x f args nx H K := by
  have hren : ∀ l : List SV, SV.bndL 0 l → ∀ σ, l = SV.renL σ l := fun l hl σ => by rw [SV.renL_bnd (σ := σ) (τ := id) (m := 0) (fun i hi => absurd hi (Nat.not_lt_zero i)) l hl, SV.renL_id]
  refine Does.fn hP hgl 0 id [] f args [] h (SV.ren_closed hbf _).symm (hren _ hba _) hbf hba (fun i hi => absurd hi (Nat.not_lt_zero i)) (fun i j hi => absurd hi (Nat.not_lt_zero i)) (fun i b hb => by simp [Heap.get] at hb) fun s H' n' hq => ?_
  obtain ⟨⟨h1, rfl, rfl⟩, h2⟩ := next s H' n' hq
  refine ⟨.nil, fun _ => ?_⟩
  rw [SV.ren_closed h1, without_nil]
  exact h2

/-- A CALL IS ENTERED: the function is walked here, and its end leads on. -/
theorem Does.inl {P0 : Program} {x : Ctx} {g : FuncId} {fn : Func} {code : Code} {args : List SV} {nx : Nat} {H : Heap} {K : SV → Heap → Nat → Prop} {P : Program} {gl : Gl} {nt : Nat} {res : List ResultVar} (hP : P0 = P) (hgl : x.gl = gl) (hg : FnOK P g)
    (hm : P.follows .mixedOrders = true) (hf : P.funcs[g]? = some fn) (hb : fn.body = some code) (hnt : fn.ntmps = nt) (hres : fn.results.toList = res) (hlen : Nat.ble args.length nt = true)
    (h : ∀ κ' x', Ends κ' x' P gl nt res nx K → Sat κ' x' ⟨[.code code], envOf 0 args, H, nx, []⟩) : Does P0 x (fnv g) args nx H K := by
  intro ν w fv vs hn hH hfv hvs
  subst hP hgl
  simp only [fnv, Rel] at hfv
  subst hfv
  obtain ⟨fn', h1, h2, h3⟩ := hg
  refine .of_calls h1 h2 h3 ?_
  have hH' : Holds ⟨x.w0, x.S, ν, x.gl⟩ ν H w := ⟨hH.ok, hH.sep, hH.mine, hH.ro, hH.rosep, fun k c hk => .inl hk, hH.gl, hH.frame, hH.size, hH.fix, .refl _⟩
  have := calls_of hm hf hb hnt hres (by rw [hvs.length]; exact hlen) hH' hvs rfl (R := K) (fun κ' e => by
    rw [hn] at e ⊢
    exact h κ' _ e)
  simp only [List.append_toArray, Array.empty_append, Array.append_empty]
  refine this.mono ?_
  rintro e w' ⟨v, rfl, ν', s, H', hq, hgr, hH2, hv⟩
  exact ⟨v, rfl, ν', H', s, hgr, ⟨hH2.ok, hH2.sep, hH2.mine, hH2.ro, hH2.rosep, fun k c hk => by
    rcases hH2.ronew k c hk with h4 | h4
    · exact hH.ronew k c h4
    · exact .inr h4, hH2.gl, hH2.frame, hH2.size, hH2.fix, hH.anc.trans hgr⟩, hv, hq⟩
/-- A closure is entered. -/
theorem Does.inlc {P0 : Program} {x : Ctx} {g : FuncId} {fn : Func} {code : Code} {args caps : List SV} {nx : Nat} {H : Heap} {K : SV → Heap → Nat → Prop} {P : Program} {gl : Gl} {nt : Nat} {res : List ResultVar} (hP : P0 = P) (hgl : x.gl = gl) (hg : FnOK P g)
    (hm : P.follows .mixedOrders = true) (hf : P.funcs[g]? = some fn) (hb : fn.body = some code) (hnt : fn.ntmps = nt) (hres : fn.results.toList = res) (hlen : Nat.ble (args ++ caps).length nt = true)
    (h : ∀ κ' x', Ends κ' x' P gl nt res nx K → Sat κ' x' ⟨[.code code], envOf 0 (args ++ caps), H, nx, []⟩) : Does P0 x (.fn (.func g) [] caps) args nx H K := by
  intro ν w fv vs hn hH hfv hvs
  subst hP hgl
  simp only [Rel, RelL] at hfv
  obtain ⟨fs, cs, rfl, hfs, hcs⟩ := hfv
  obtain ⟨fn', h1, h2, h3⟩ := hg
  refine .of_calls h1 h2 h3 ?_
  have hall := hvs.append hcs
  have hH' : Holds ⟨x.w0, x.S, ν, x.gl⟩ ν H w := ⟨hH.ok, hH.sep, hH.mine, hH.ro, hH.rosep, fun k c hk => .inl hk, hH.gl, hH.frame, hH.size, hH.fix, .refl _⟩
  have := calls_of hm hf hb hnt hres (by rw [hall.length]; exact hlen) hH' hall rfl (R := K) (fun κ' e => by
    rw [hn] at e ⊢
    exact h κ' _ e)
  have e1 : fs ++ vs.toArray ++ cs = (vs ++ cs.toList).toArray := by
    have h7 : fs = #[] := by
      apply Array.toList_inj.1
      rw [hfs]
    rw [h7]; simp
  rw [e1]
  refine this.mono ?_
  rintro e w' ⟨v, rfl, ν', s, H', hq, hgr, hH2, hv⟩
  exact ⟨v, rfl, ν', H', s, hgr, ⟨hH2.ok, hH2.sep, hH2.mine, hH2.ro, hH2.rosep, fun k c hk => by
    rcases hH2.ronew k c hk with h4 | h4
    · exact hH.ronew k c h4
    · exact .inr h4, hH2.gl, hH2.frame, hH2.size, hH2.fix, hH.anc.trans hgr⟩, hv, hq⟩

/-- LOOPS. 'C g': what is known at the head of a round; 'μ g': how many rounds are to come at most. -/
theorem Sat.loop {κ : Kx} {x : Ctx} {γ : Type} {body : Code} {k : List Item} {dfs : List Nat} (C : γ → Env × Heap × Nat) (μ : γ → Nat) (I : γ → Prop)
    (round : ∀ g, I g → (∀ g', I g' → μ g' < μ g → Sat κ x ⟨.inLoop body :: k, (C g').1, (C g').2.1, (C g').2.2, dfs⟩) → Sat κ x ⟨.code body :: .inLoop body :: k, (C g).1, (C g).2.1, (C g).2.2, dfs⟩)
    (g : γ) (hI : I g) : Sat κ x ⟨.code (.loop body) :: k, (C g).1, (C g).2.1, (C g).2.2, dfs⟩ := by
  have key : ∀ n g, μ g = n → I g → Sat κ x ⟨.inLoop body :: k, (C g).1, (C g).2.1, (C g).2.2, dfs⟩ := by
    intro n
    induction n using Nat.strongRecOn with
    | _ n ih =>
      intro g hn hI ν w a h1 h2 h3 h4
      exact lands_inLoop (round g hI (fun g' hI' hlt => ih (μ g') (hn ▸ hlt) g' rfl hI') ν w a h1 h2 h3 h4)
  intro ν w a h1 h2 h3 h4
  exact lands_loop (round g hI (fun g' hI' _ => key (μ g') g' rfl hI') ν w a h1 h2 h3 h4)
/-- One round of a loop that is unrolled. -/
theorem Sat.enter {κ : Kx} {x : Ctx} {body : Code} {k : List Item} {env : Env} {H : Heap} {nx : Nat} {dfs : List Nat} (h : Sat κ x ⟨.code body :: .inLoop body :: k, env, H, nx, dfs⟩) : Sat κ x ⟨.code (.loop body) :: k, env, H, nx, dfs⟩ :=
  fun ν w a h1 h2 h3 h4 => lands_loop (h ν w a h1 h2 h3 h4)
theorem Sat.again {κ : Kx} {x : Ctx} {body : Code} {k : List Item} {env : Env} {H : Heap} {nx : Nat} {dfs : List Nat} (h : Sat κ x ⟨.code body :: .inLoop body :: k, env, H, nx, dfs⟩) : Sat κ x ⟨.inLoop body :: k, env, H, nx, dfs⟩ :=
  fun ν w a h1 h2 h3 h4 => lands_inLoop (h ν w a h1 h2 h3 h4)

/-- A nil slice counts as a row of nothing. -/
theorem Sat.nilRow {κ : Kx} {x : Ctx} {k : List Item} {env : Env} {H : Heap} {nx : Nat} {dfs : List Nat} (t sz : Nat) (T : TypeId) (ht : env.get t = some (.v (.slice none 0 0)))
    (h : Sat κ x ⟨k, (t, .sl nx sz 0 0 0) :: env, (nx, .row sz 0 T []) :: H, nx + 1, dfs⟩) : Sat κ x ⟨k, env, H, nx, dfs⟩ := by
  intro ν w a hn hH hE hD
  have hn : ν.nx = nx := hn
  subst hn
  have g := Grows.name ν 0
  obtain ⟨y, h1, h2⟩ := hE.2 t _ ht
  simp only [Rel] at h2
  subst h2
  refine h (ν.name 0) w a rfl hH.nameEmpty ((hE.grows g).know h1 ?_) (hD.grows g)
  exact ⟨Nat.lt_succ_self _, none, rfl, fun h => by omega⟩
/-- The same of a variable's cells. -/
theorem Sat.nilCell {κ : Kx} {x : Ctx} {k : List Item} {env : Env} {H : Heap} {nx : Nat} {dfs : List Nat} (id sz : Nat) (T U : TypeId) (pre post : List SV) (ht : H.get id = some (.own (pre ++ .v (.slice none 0 0) :: post) U))
    (h : Sat κ x ⟨k, env, (nx, .row sz 0 T []) :: H.set id (.own (pre ++ .sl nx sz 0 0 0 :: post) U), nx + 1, dfs⟩) : Sat κ x ⟨k, env, H, nx, dfs⟩ := by
  intro ν w a hn hH hE hD
  have hn : ν.nx = nx := hn
  subst hn
  have g := Grows.name ν 0
  have h1 := hH.nameEmpty (sz := sz) (T := T)
  have hlt := hH.lt ht
  refine h (ν.name 0) w a rfl ?_ (hE.grows g) (hD.grows g)
  have hget : Heap.get ((ν.nx, Blk.row sz 0 T []) :: H) id = some (.own (pre ++ .v (.slice none 0 0) :: post) U) := by
    rw [Heap.get_cons, if_neg (by omega)]; exact ht
  have h2 := h1.write (b' := .own (pre ++ .sl ν.nx sz 0 0 0 :: post) U) hget trivial (fun _ _ => rfl) rfl (.refl _) (by
    obtain ⟨q1, c, q2, q3⟩ := h1.ok id _ hget
    refine ⟨q1, c, q2, ?_⟩
    generalize c.toList = l at q3
    have key : ∀ (pre : List SV) (l : List Value), RelL (ν.name 0) (pre ++ .v (.slice none 0 0) :: post) l → RelL (ν.name 0) (pre ++ .sl ν.nx sz 0 0 0 :: post) l := by
      intro pre
      induction pre with
      | nil =>
        intro l hl
        simp only [List.nil_append, RelL] at hl ⊢
        obtain ⟨y, ys, rfl, e1, e2⟩ := hl
        simp only [Rel] at e1
        subst e1
        exact ⟨_, ys, rfl, ⟨Nat.lt_succ_self _, none, rfl, fun h => by omega⟩, e2⟩
      | cons p pre ih =>
        intro l hl
        simp only [List.cons_append, RelL] at hl ⊢
        obtain ⟨y, ys, rfl, e1, e2⟩ := hl
        exact ⟨y, ys, rfl, e1, ih ys e2⟩
    exact key pre l q3)
  simp only [Heap.set] at h2
  rw [if_neg (by omega)] at h2
  exact h2

/- the integers of each kind -/
theorem wrap_i64 {x : Int} (h1 : -9223372036854775808 ≤ x) (h2 : x ≤ 9223372036854775807) : IntKind.i64.wrap x = x := by
  simp only [IntKind.wrap, IntKind.signed, IntKind.bits]
  simp
  omega
theorem wrap_u64 {x : Int} (h1 : 0 ≤ x) (h2 : x ≤ 18446744073709551615) : IntKind.u64.wrap x = x := by
  simp only [IntKind.wrap, IntKind.signed, IntKind.bits]
  simp
  omega
theorem wrap_u32 {x : Int} (h1 : 0 ≤ x) (h2 : x ≤ 4294967295) : IntKind.u32.wrap x = x := by
  simp only [IntKind.wrap, IntKind.signed, IntKind.bits]
  simp
  omega
theorem wrap_u16 {x : Int} (h1 : 0 ≤ x) (h2 : x ≤ 65535) : IntKind.u16.wrap x = x := by
  simp only [IntKind.wrap, IntKind.signed, IntKind.bits]
  simp
  omega
theorem wrap_u8 {x : Int} (h1 : 0 ≤ x) (h2 : x ≤ 255) : IntKind.u8.wrap x = x := by
  simp only [IntKind.wrap, IntKind.signed, IntKind.bits]
  simp
  omega
theorem wrap_i32 {x : Int} (h1 : -2147483648 ≤ x) (h2 : x ≤ 2147483647) : IntKind.i32.wrap x = x := by
  simp only [IntKind.wrap, IntKind.signed, IntKind.bits]
  simp
  omega
theorem shAmt_of {y : Int} {b : Nat} (h0 : 0 ≤ y) (h : y ≤ b) : shAmt y b = y.toNat := by
  unfold shAmt
  rw [if_pos (by omega)]
theorem wrap_u8_mod (x : Int) : IntKind.u8.wrap x = x % 256 := by
  simp only [IntKind.wrap, IntKind.signed, IntKind.bits]
  simp
theorem wrap_u16_mod (x : Int) : IntKind.u16.wrap x = x % 65536 := by
  simp only [IntKind.wrap, IntKind.signed, IntKind.bits]
  simp
theorem wrap_u32_mod (x : Int) : IntKind.u32.wrap x = x % 4294967296 := by
  simp only [IntKind.wrap, IntKind.signed, IntKind.bits]
  simp
theorem wrap_u64_mod (x : Int) : IntKind.u64.wrap x = x % 18446744073709551616 := by
  simp only [IntKind.wrap, IntKind.signed, IntKind.bits]
  simp
end Go.Sy

/- Many steps: what the executor comes to is what the machine comes to. The end of a function; loops; calls. No condition. -/
import Derived.Test.YtmieikflcolbaaaSyL
namespace Go.Sy
open Go
set_option linter.unusedSimpArgs false
set_option linter.unusedVariables false
structure Kx where
  P : Program
  b : Frame
  cs : List Frame
  T : Machine → Prop
  nt : Nat
  hk : b.kind ≠ .early
  hm : P.follows .mixedOrders = true
def RelD (ν : Nm) (dfs : List Nat) (ds : List Deferred) : Prop := (∀ id ∈ dfs, id < ν.nx) ∧ ds = dfs.map fun id => { target := .collected (ν.blk id), args := #[] }
theorem RelD.grows {ν ν' : Nm} {dfs : List Nat} {ds : List Deferred} (h : RelD ν dfs ds) (g : Grows ν ν') : RelD ν' dfs ds :=
  ⟨fun id hid => Nat.lt_of_lt_of_le (h.1 id hid) g.1, by rw [h.2]; exact List.map_congr_left fun id hid => by rw [g.2.1 id (h.1 id hid)]⟩
def Sat (κ : Kx) (x : Ctx) (c : Cfg) : Prop :=
  ∀ (ν : Nm) (w : World) (a : Act), ν.nx = c.nx → Holds x ν c.heap w → RelE ν κ.nt c.env a.tmps → RelD ν c.dfs a.defers → Lands κ.P (lone (fr κ.b a c.todo) κ.cs w) κ.T
def Does (P : Program) (x : Ctx) (f : SV) (args : List SV) (nx : Nat) (H : Heap) (K : SV → Heap → Nat → Prop) : Prop :=
  ∀ (ν : Nm) (w : World) (fv : Value) (vs : List Value), ν.nx = nx → Holds x ν H w → Rel ν f fv → RelL ν args vs →
    CallsV P fv vs.toArray w fun v w' => ∃ ν' H' s, Grows ν ν' ∧ Holds x ν' H' w' ∧ Rel ν' s v ∧ K s H' ν'.nx
abbrev CallOK (κ : Kx) (x : Ctx) (f : SV) (args : List SV) (dst : Option Nat) (c : Cfg) : Prop :=
  Does κ.P x f args c.nx c.heap fun s H nx => Sat κ x ⟨c.todo, setO dst s c.env, H, nx, c.dfs⟩
def OutOK (κ : Kx) (x : Ctx) : Out → Prop
  | .need p o => p ∧ (p → OutOK κ x o)
  | .all k => ∀ i, OutOK κ x (k i)
  | .call f args dst c => CallOK κ x f args dst c
  | .stop c => Sat κ x c
  | .fail _ => False
section
variable {κ : Kx} {x : Ctx}
theorem OutOK_need {p : Prop} {o : Out} : OutOK κ x (.need p o) ↔ p ∧ (p → OutOK κ x o) := Iff.rfl
theorem OutOK_all {k : Nat → Out} : OutOK κ x (.all k) ↔ ∀ i, OutOK κ x (k i) := Iff.rfl
theorem OutOK_call {f : SV} {args : List SV} {dst : Option Nat} {c : Cfg} : OutOK κ x (.call f args dst c) ↔ CallOK κ x f args dst c := Iff.rfl
theorem OutOK_stop {c : Cfg} : OutOK κ x (.stop c) ↔ Sat κ x c := Iff.rfl
theorem OutOK_fork {ex : Cfg → Out} {t : Bool} {c d : Cfg} (h1 : t = true → OutOK κ x (ex c)) (h2 : t = false → OutOK κ x (ex d)) : OutOK κ x (runR ex (.fork t c d)) := by
  cases t
  · exact h2 rfl
  · exact h1 rfl
theorem OutOK_guard {ex : Cfg → Out} {t want : Bool} {r : SR} {s : Cfg} (h1 : t = want → OutOK κ x (runR ex r)) (h2 : t = (!want) → OutOK κ x (ex s)) : OutOK κ x (runR ex (.guard t want r s)) := by
  simp only [runR]
  split
  · exact h1 (by assumption)
  · exact h2 (by cases t <;> cases want <;> simp_all)
def Takes (κ : Kx) (x : Ctx) (ex : Cfg → Out) (dst : Option Nat) (todo : List Item) (env : Env) (dfs : List Nat) (s : SV) (H : Heap) (nx : Nat) : Prop :=
  match dst with
  | some d => d < κ.nt ∧ OutOK κ x (ex ⟨todo, (d, s) :: env, H, nx, dfs⟩)
  | none => OutOK κ x (ex ⟨todo, env, H, nx, dfs⟩)
theorem toSR_sound {ex : Cfg → Out} {dst : Option Nat} {todo : List Item} {env : Env} {dfs : List Nat} : ∀ r : R1, OutOK κ x (runR ex (toSR κ.nt dst todo env dfs r)) → R1OK (Takes κ x ex dst todo env dfs) r
  | .ok s H nx, h => by
    unfold toSR at h
    show Takes κ x ex dst todo env dfs s H nx
    unfold Takes
    split at h
    · split at h
      · exact ⟨by assumption, h⟩
      · exact h.elim
    · exact h
  | .need p r, h => ⟨h.1, fun hp => toSR_sound r (h.2 hp)⟩
  | .all k, h => fun i => toSR_sound (k i) (h i)
  | .fail s, h => h
theorem put_rel {ν : Nm} {env : Env} {tm : Array Value} {dst : Option Nat} {s : SV} {v : Value} (hE : RelE ν κ.nt env tm) (hd : ∀ d, dst = some d → d < κ.nt) (hs : Rel ν s v) :
    RelE ν κ.nt (setO dst s env) (put tm dst v) := by
  cases dst with
  | none => exact hE
  | some d => exact hE.put (hd d rfl) hs
theorem runOp_sound {ex : Cfg → Out} (hex : ∀ c, OutOK κ x (ex c) → Sat κ x c) {ops : Array Oper} {i : Nat} {r : List Nat} {k : List Item} {o : Oper} {env : Env} {H : Heap} {nx : Nat} {dfs : List Nat}
    (ho : ops[i]? = some o) {ν : Nm} {w : World} {a : Act} (hw : Region.wanted o (yielded ops a.tmps) = true)
    (h : OutOK κ x (runR ex (runOp κ.P x.gl κ.nt o (.inRegion ops r :: k) env H nx dfs))) (hn : ν.nx = nx) (hH : Holds x ν H w) (hE : RelE ν κ.nt env a.tmps) (hD : RelD ν dfs a.defers) :
    Lands κ.P (lone (fr κ.b a (.inRegion ops (i :: r) :: k)) κ.cs w) κ.T := by
  subst hn
  have plain : (∀ c, o.op ≠ .defer c) → OutOK κ x (runR ex (toSR κ.nt o.dst (.inRegion ops r :: k) env dfs (sop κ.P x.gl env H ν.nx o.op))) → Lands κ.P (lone (fr κ.b a (.inRegion ops (i :: r) :: k)) κ.cs w) κ.T := by
    intro hd h
    have h := toSR_sound _ h
    obtain ⟨v, w', ν', s, H', hrun, hg, hH', hs, hQ⟩ := sop_sound (P := κ.P) hE hH h
    have next : Lands κ.P (lone (fr κ.b { a with tmps := put a.tmps o.dst v } (.inRegion ops r :: k)) κ.cs w') κ.T := by
      unfold Takes at hQ
      split at hQ
      · rename_i d hdst
        rw [hdst]
        exact hex _ hQ.2 ν' w' _ rfl hH' ((hE.grows hg).put hQ.1 hs) (hD.grows hg)
      · rename_i hdst
        rw [hdst]
        exact hex _ hQ ν' w' _ rfl hH' (hE.grows hg) (hD.grows hg)
    rcases hrun with hrun | ⟨hrun, rfl⟩
    · exact lands_op_value ho hw hd hrun next
    · exact lands_op_unit ho hw hd hrun next
  unfold runOp at h
  split at h
  · rename_i f args tys hop
    split at h
    case h_2 => exact h.elim
    rename_i g as hf has
    have hfv := ev_rel hH.glOK hE hf
    have hav := evs_rel hH.glOK hE has
    have key : CallOK κ x g as o.dst ⟨.inRegion ops r :: k, env, H, ν.nx, dfs⟩ ∧ ∀ d, o.dst = some d → d < κ.nt := by
      split at h
      · rename_i d hdst
        split at h
        · rename_i hlt
          rw [hdst]
          refine ⟨h, fun d' hd' => ?_⟩
          simp only [Option.some.injEq] at hd'
          exact hd' ▸ hlt
        · exact h.elim
      · rename_i hdst
        rw [hdst]
        exact ⟨h, fun d' hd' => absurd hd' (by simp)⟩
    obtain ⟨hcall, hdst⟩ := key
    have hc := hcall ν w _ _ rfl hH hfv hav
    have e : (List.map a.eval args.toList).toArray = Array.map a.eval args := by apply Array.ext'; simp
    rw [e] at hc
    refine lands_op_call ho hop hw κ.hk hc ?_
    rintro v w' ⟨ν', H', s, hg, hH', hs, hsat⟩
    exact hsat ν' w' _ rfl hH' (put_rel (hE.grows hg) hdst hs) (hD.grows hg)
  · rename_i hne
    exact plain (by intro c hc; rw [hc] at h; exact h.elim) h
theorem guard_yield {ops : Array Oper} {j d : Nat} {tm : Array Value} {b : Bool} (hd : (ops[j]?).bind (·.dst) = some d) (hy : tm[d]? = some (.bool b)) : yielded ops tm j = some b := by
  simp only [yielded, hd, Option.bind_some, hy]
theorem guard_yield' {ops : Array Oper} {j d : Nat} {tm : Array Value} {b : Array Value} (hd : (ops[j]?).bind (·.dst) = some d) (hy : tm[d]? = some (.tuple b)) : yielded ops tm j = none := by
  simp only [yielded, hd, Option.bind_some, hy]
theorem guardS_sound {ex : Cfg → Out} (hex : ∀ c, OutOK κ x (ex c) → Sat κ x c) {ops : Array Oper} {i j : Nat} {want : Bool} {r : List Nat} {k : List Item} {o : Oper} {env : Env} {H : Heap} {nx : Nat} {dfs : List Nat}
    (ho : ops[i]? = some o) (hgd : o.guard = some (j, want)) {ν : Nm} {w : World} {a : Act}
    (h : OutOK κ x (runR ex (guardS κ.P x.gl κ.nt o want (.inRegion ops r :: k) env H nx dfs ((ops[j]?).bind (·.dst))))) (hn : ν.nx = nx) (hH : Holds x ν H w) (hE : RelE ν κ.nt env a.tmps) (hD : RelD ν dfs a.defers) :
    Lands κ.P (lone (fr κ.b a (.inRegion ops (i :: r) :: k)) κ.cs w) κ.T := by
  subst hn
  cases hd : (ops[j]?).bind (·.dst) with
  | none => rw [hd] at h; exact h.elim
  | some d =>
    rw [hd] at h
    unfold guardS at h
    split at h
    case h_2 hne => cases hne
    rename_i q d' heq
    simp only [Option.some.injEq] at heq
    subst heq
    split at h
    · -- a bool
      rename_i t ht
      obtain ⟨y, hy1, hy2⟩ := hE.2 d _ ht
      simp only [Rel] at hy2
      subst hy2
      have hyield := guard_yield hd hy1
      have run : t = want → OutOK κ x (runR ex (runOp κ.P x.gl κ.nt o (.inRegion ops r :: k) ((d, .v (.bool want)) :: env) H ν.nx dfs)) → Lands κ.P (lone (fr κ.b a (.inRegion ops (i :: r) :: k)) κ.cs w) κ.T := by
        rintro rfl h
        exact runOp_sound hex ho (by simp [Region.wanted, hgd, hyield]) h rfl hH (hE.know hy1 rfl) hD
      have skip : t ≠ want → ∀ env', OutOK κ x (ex ⟨.inRegion ops r :: k, env', H, ν.nx, dfs⟩) → RelE ν κ.nt env' (put a.tmps o.dst undef) → Lands κ.P (lone (fr κ.b a (.inRegion ops (i :: r) :: k)) κ.cs w) κ.T := by
        intro hne env' h hE'
        refine lands_op_skip ho ?_ (hex _ h ν w { a with tmps := put a.tmps o.dst undef } rfl hH hE' hD)
        simp [Region.wanted, hgd, hyield, hne]
      have hE1 : t ≠ want → RelE ν κ.nt ((d, .v (.bool !want)) :: env) a.tmps := by
        intro hne
        have : t = !want := by cases t <;> cases want <;> simp_all
        exact hE.know hy1 (by rw [this]; rfl)
      split at h
      · rename_i z hz
        split at h
        case isFalse => exact h.elim
        rename_i hlt
        simp only [runR] at h
        split at h
        · exact run (by assumption) h
        · rename_i hne
          refine skip hne _ h ?_
          rw [hz]
          exact (hE1 hne).put hlt.1 rfl
      · rename_i hz
        split at h
        case isFalse => exact h.elim
        simp only [runR] at h
        split at h
        · exact run (by assumption) h
        · rename_i hne
          refine skip hne _ h ?_
          rw [hz]
          exact hE1 hne
    · -- nothing has been yielded
      rename_i t ht
      obtain ⟨y, hy1, hy2⟩ := hE.2 d _ ht
      simp only [Rel] at hy2
      subst hy2
      have hyield := guard_yield' hd hy1
      have hw : Region.wanted o (yielded ops a.tmps) = false := by simp [Region.wanted, hgd, hyield]
      split at h
      · rename_i z hz
        split at h
        case isFalse => exact h.elim
        rename_i hlt
        refine lands_op_skip ho hw (hex _ h ν w _ rfl hH ?_ hD)
        rw [hz]
        exact hE.put hlt rfl
      · rename_i hz
        refine lands_op_skip ho hw (hex _ h ν w _ rfl hH ?_ hD)
        rw [hz]
        exact hE
    · exact h.elim
theorem condS_sound {ex : Cfg → Out} (hex : ∀ c, OutOK κ x (ex c) → Sat κ x c) {y : Operand} {ca cb : Code} {k : List Item} {env : Env} {H : Heap} {nx : Nat} {dfs : List Nat}
    (h : OutOK κ x (runR ex (condS (ev x.gl env y) ⟨.code ca :: k, env, H, nx, dfs⟩ ⟨.code cb :: k, env, H, nx, dfs⟩))) : Sat κ x ⟨.code (.cond y ca cb) :: k, env, H, nx, dfs⟩ := by
  intro ν w a hn hH hE hD
  unfold condS at h
  split at h
  case h_2 => exact h.elim
  rename_i b hb
  have := ev_rel hH.glOK hE hb
  simp only [Rel] at this
  refine lands_cond this ?_
  cases b with
  | true => exact hex _ h ν w a hn hH hE hD
  | false => exact hex _ h ν w a hn hH hE hD
theorem drawN_sound {ex : Cfg → Out} {go : Env → SR} {dst : Option Nat} {env : Env} : ∀ r : R1, OutOK κ x (runR ex (drawN κ.nt go dst env r)) →
    R1OK (fun s _ _ => (∀ d, dst = some d → d < κ.nt) ∧ OutOK κ x (runR ex (go (setO dst s env)))) r
  | .ok s H n, h => by
    unfold drawN at h
    show (∀ d, dst = some d → d < κ.nt) ∧ OutOK κ x (runR ex (go (setO dst s env)))
    split at h
    · split at h
      · rename_i hlt
        exact ⟨fun d hd => by simp only [Option.some.injEq] at hd; exact hd ▸ hlt, h⟩
      · exact h.elim
    · exact ⟨fun d hd => absurd hd (by simp), h⟩
  | .need p r, h => ⟨h.1, fun hp => drawN_sound r (h.2 hp)⟩
  | .all _, h => h.elim
  | .fail _, h => h.elim
theorem drawSkip_sound {ex : Cfg → Out} {go : Env → SR} {dst : Option Nat} {env : Env} (h : OutOK κ x (runR ex (drawSkip κ.nt go dst env))) :
    (∀ d, dst = some d → d < κ.nt) ∧ OutOK κ x (runR ex (go (setO dst undefS env))) := by
  unfold drawSkip at h
  split at h
  · split at h
    · rename_i hlt
      exact ⟨fun d hd => by simp only [Option.some.injEq] at hd; exact hd ▸ hlt, h⟩
    · exact h.elim
  · exact ⟨fun d hd => absurd hd (by simp), h⟩
theorem draw_sound {ex : Cfg → Out} (hex : ∀ c, OutOK κ x (ex c) → Sat κ x c) {ops : Array Oper} {k : List Item} {H : Heap} {nx : Nat} {dfs : List Nat} {ν : Nm} {w : World} (hn : ν.nx = nx) (hH : Holds x ν H w) :
    ∀ (l : List Oper) (env : Env) (a : Act), RelE ν κ.nt env a.tmps → RelD ν dfs a.defers → OutOK κ x (runR ex (drawGo κ.P x.gl κ.nt H nx ops (drawFin k H nx dfs) l env)) →
      wpQuiet κ.P ops (Ext w) (fun a' => ∀ w', Ext w w' → Lands κ.P (lone (fr κ.b a' k) κ.cs w') κ.T) l a
  | [], env, a, hE, hD, h => fun w' e => hex _ h ν w' a hn (hH.grown e) hE hD
  | o :: l, env, a, hE, hD, h => by
    subst hn
    unfold drawGo at h
    split at h
    case isFalse => exact h.elim
    rename_i hq
    have run : ∀ env, RelE ν κ.nt env a.tmps → OutOK κ x (runR ex (drawN κ.nt (drawGo κ.P x.gl κ.nt H ν.nx ops (drawFin k H ν.nx dfs) l) o.dst env (sop κ.P x.gl env H ν.nx o.op))) →
        o.quiet κ.P a (Ext w) (wpQuiet κ.P ops (Ext w) (fun a' => ∀ w', Ext w w' → Lands κ.P (lone (fr κ.b a' k) κ.cs w') κ.T) l) := by
      intro env hE h
      obtain ⟨v, s, h1, h2, h3, h4⟩ := sopq_sound (P := κ.P) hq hE hH (drawN_sound _ h)
      refine ⟨v, fun w' e => ?_, ?_⟩
      · unfold Oper.quietAt; rw [h1 w' e]; exact ⟨rfl, rfl⟩
      · rw [← put_eq]
        exact draw_sound hex rfl hH l _ _ (put_rel hE h3 h2) hD h4
    have skip : ∀ env, RelE ν κ.nt env a.tmps → OutOK κ x (runR ex (drawSkip κ.nt (drawGo κ.P x.gl κ.nt H ν.nx ops (drawFin k H ν.nx dfs) l) o.dst env)) →
        wpQuiet κ.P ops (Ext w) (fun a' => ∀ w', Ext w w' → Lands κ.P (lone (fr κ.b a' k) κ.cs w') κ.T) l (a.put o.dst undef) := by
      intro env hE h
      obtain ⟨h3, h4⟩ := drawSkip_sound h
      rw [← put_eq]
      exact draw_sound hex rfl hH l _ _ (put_rel hE h3 (by exact rfl)) hD h4
    unfold wpQuiet
    split at h
    · rename_i hg
      rw [if_pos (by simp [Region.wanted, hg])]
      exact run env hE h
    · rename_i j want hg
      split at h
      case h_2 => exact h.elim
      rename_i d hd
      unfold drawG at h
      split at h
      · rename_i ht
        obtain ⟨y, hy1, hy2⟩ := hE.2 d _ ht
        simp only [Rel] at hy2
        subst hy2
        have hy := guard_yield hd hy1
        cases want with
        | true => rw [if_pos (by simp [Region.wanted, hg, hy])]; exact run env hE h
        | false => rw [if_neg (by simp [Region.wanted, hg, hy])]; exact skip env hE h
      · rename_i ht
        obtain ⟨y, hy1, hy2⟩ := hE.2 d _ ht
        simp only [Rel] at hy2
        subst hy2
        have hy := guard_yield hd hy1
        cases want with
        | true => rw [if_neg (by simp [Region.wanted, hg, hy])]; exact skip env hE h
        | false => rw [if_pos (by simp [Region.wanted, hg, hy])]; exact run env hE h
      · rename_i ht
        obtain ⟨y, hy1, hy2⟩ := hE.2 d _ ht
        simp only [Rel] at hy2
        subst hy2
        have hy := guard_yield' hd hy1
        rw [if_neg (by simp [Region.wanted, hg, hy])]
        exact skip env hE h
      · exact h.elim
theorem allQuiet_defer : ∀ {l : List Oper}, allQuiet l = true → ∀ (i : Nat) o c, l[i]? = some o → o.op ≠ .defer c
  | [], _, i, o, c, h => by simp at h
  | p :: l, hq, i, o, c, h => by
    simp only [allQuiet, Bool.and_eq_true] at hq
    cases i with
    | zero => simp at h; subst h; intro he; rw [he] at hq; simp [quietOp] at hq
    | succ i => exact allQuiet_defer hq.2 i o c (by simpa using h)
theorem drawS_sound {ex : Cfg → Out} (hex : ∀ c, OutOK κ x (ex c) → Sat κ x c) {id : Nat} {ops : Array Oper} {k : List Item} {env : Env} {H : Heap} {nx : Nat} {dfs : List Nat}
    (h : OutOK κ x (runR ex (drawS (allQuiet ops.toList) (drawGo κ.P x.gl κ.nt H nx ops (drawFin k H nx dfs) ops.toList env) ⟨.code (.region id ops true) :: k, env, H, nx, dfs⟩ (Region.lexB .any ops = true)))) : Sat κ x ⟨.code (.region id ops true) :: k, env, H, nx, dfs⟩ := by
  cases hq : allQuiet ops.toList with
  | false => rw [hq] at h; exact h
  | true =>
    rw [hq] at h
    obtain ⟨hB, h⟩ := h
    have h := h hB
    intro ν w a hn hH hE hD
    have hw1 : Holds x ν H { w with drawn := w.drawn + 1 } := hH.same rfl ⟨rfl, rfl, rfl⟩
    exact lands_draw (C := Ext { w with drawn := w.drawn + 1 }) κ.hm hB (fun i o c ho => allQuiet_defer hq i o c (by simpa using ho)) (.refl _) (draw_sound hex hn hw1 ops.toList env a hE hD h)
theorem step_sound {ex : Cfg → Out} (hex : ∀ c, OutOK κ x (ex c) → Sat κ x c) (c : Cfg) (h : OutOK κ x (runR ex (stepS κ.P x.gl κ.nt c))) : Sat κ x c := by
  unfold stepS at h
  split at h
  · exact h
  · exact fun ν w a hn hH hE hD => lands_skip (hex _ h ν w a hn hH hE hD)
  · exact fun ν w a hn hH hE hD => lands_label (hex _ h ν w a hn hH hE hD)
  · exact fun ν w a hn hH hE hD => lands_inBlock (hex _ h ν w a hn hH hE hD)
  · exact fun ν w a hn hH hE hD => lands_inScope (hex _ h ν w a hn hH hE hD)
  · exact fun ν w a hn hH hE hD => lands_seq (hex _ h ν w a hn hH hE hD)
  · exact fun ν w a hn hH hE hD => lands_block (hex _ h ν w a hn hH hE hD)
  · exact fun ν w a hn hH hE hD => lands_scope (hex _ h ν w a hn hH hE hD)
  · exact condS_sound hex h
  · unfold goS at h
    split at h
    · rename_i hk
      exact fun ν w a hn hH hE hD => lands_exit hk (hex _ h ν w a hn hH hE hD)
    · exact h
  · unfold goS at h
    split at h
    · rename_i hk
      exact fun ν w a hn hH hE hD => lands_goto hk (hex _ h ν w a hn hH hE hD)
    · exact h
  · exact fun ν w a hn hH hE hD => lands_region (hex _ h ν w a hn hH hE hD)
  · exact drawS_sound hex h
  · exact fun ν w a hn hH hE hD => lands_region_end (hex _ h ν w a hn hH hE hD)
  · split at h
    case h_2 => exact h.elim
    rename_i o ho
    split at h
    · rename_i hg
      exact fun ν w a hn hH hE hD => runOp_sound hex ho (by simp [Region.wanted, hg]) h hn hH hE hD
    · rename_i j want hg
      exact fun ν w a hn hH hE hD => guardS_sound hex ho hg h hn hH hE hD
  · exact h
theorem exec_sound : ∀ (n : Nat) (c : Cfg), OutOK κ x (exec κ.P x.gl κ.nt n c) → Sat κ x c
  | 0, _, h => h
  | n + 1, c, h => step_sound (exec_sound n) c h
end
def kfun (P : Program) (hm : P.follows .mixedOrders = true) (f : FuncId) (nt : Nat) (cs : List Frame) (R : Value → World → Prop) : Kx :=
  { P, b := base f, cs, T := Back P f cs R, nt, hk := by simp [base], hm }
theorem getElem?_args (args : List Value) (n : Nat) (t : Nat) : ((args.toArray ++ Array.replicate n undef))[t]? = if t < args.length then args[t]? else if t < args.length + n then some undef else none := by
  rw [Array.getElem?_append]
  simp only [List.size_toArray]
  split
  · simp
  · rw [Array.getElem?_replicate]
    split <;> split <;> first | rfl | omega
def envOf : Nat → List SV → Env
  | _, [] => []
  | i, s :: l => (i, s) :: envOf (i + 1) l
theorem envOf_rel {ν : Nm} : ∀ (l : List SV) (vs : List Value) (i : Nat), RelL ν l vs → ∀ t s, (envOf i l).get t = some s → ∃ y, i ≤ t ∧ vs[t - i]? = some y ∧ Rel ν s y
  | [], _, _, _, t, s, h => by simp [envOf, Env.get] at h
  | x :: l, vs, i, hl, t, s, h => by
    simp only [RelL] at hl
    obtain ⟨y, ys, rfl, h1, h2⟩ := hl
    simp only [envOf, Env.get] at h
    split at h
    · rename_i e; subst e; simp at h; subst h; exact ⟨y, Nat.le_refl _, by simp, h1⟩
    · rename_i hne
      obtain ⟨z, h3, h4, h5⟩ := envOf_rel l ys (i + 1) h2 t s h
      refine ⟨z, by omega, ?_, h5⟩
      rw [show t - i = (t - (i + 1)) + 1 by omega]
      simpa using h4
theorem calls_of_sat {P : Program} {f : FuncId} {fn : Func} {c : Code} {x : Ctx} {ν : Nm} {H : Heap} {w : World} {args : List SV} {vs : List Value} {R : Value → World → Prop}
    (hf : P.funcs[f]? = some fn) (hb : fn.body = some c) (hlen : vs.length ≤ fn.ntmps) (hH : Holds x ν H w) (ha : RelL ν args vs)
    (hm : P.follows .mixedOrders = true) (h : ∀ cs, Sat (kfun P hm f fn.ntmps cs R) x ⟨[.code c], envOf 0 args, H, ν.nx, []⟩) : Calls P f vs.toArray w fun e w' => ∃ v, e = .returned v ∧ R v w' := by
  refine calls_of_lands hf hb fun cs => h cs ν w _ rfl hH ?_ ⟨by simp, by simp⟩
  refine ⟨by simp [kfun]; omega, fun t s hs => ?_⟩
  obtain ⟨y, _, h2, h3⟩ := envOf_rel args vs 0 ha t s hs
  refine ⟨y, ?_, h3⟩
  simp only [List.size_toArray]
  rw [getElem?_args]
  have : t < vs.length := (List.getElem?_eq_some_iff.1 h2).1
  simpa [this] using h2
def cellOf : R1 → Option SV
  | .ok s _ _ => some s
  | _ => none
def cellRow (agg : Option Bool) (size : Option Nat) (H : Heap) : Option SV → Option SV
  | some (.ptr id 0 0 0) => match H.get id with
    | some (.row s _ _ xs) => match agg, size with
      | some true, some n => if n = xs.length * s ∧ s ≠ 0 then some (.arr s xs) else none
      | _, _ => none
    | _ => none
  | _ => none
def cellW (agg : Option Bool) (size : Option Nat) (H : Heap) (p : Option SV) : Option SV :=
  match cellRow agg size H p with
  | some s => some s
  | none => cellOf (sLoad agg size H 0 p)
def resOf (P : Program) (env : Env) (H : Heap) : List ResultVar → Option (List SV)
  | [] => some []
  | .tmp t :: l => match env.get t, resOf P env H l with
    | some s, some r => some (s :: r)
    | _, _ => none
  | .cell a t :: l => match cellW (tyAgg P t) (tySize P t) H (env.get a), resOf P env H l with
    | some s, some r => some (s :: r)
    | _, _ => none
def resV : List SV → SV
  | [s] => s
  | l => .tup l
def resM (tm : Array Value) : ResultVar → Sem Value
  | .tmp t => pure (tm.getD t undef)
  | .cell a t => do loadVar t (← asAddr (tm.getD a undef))
theorem results_eq (fn : Func) (tm : Array Value) : results fn tm = (do let vs ← fn.results.mapM (resM tm); pure (if h : vs.size = 1 then vs[0] else .tuple vs)) := by
  unfold results
  have : (fun (r : ResultVar) => (match r with
    | .tmp t => pure (tm.getD t undef)
    | .cell a t => do loadVar t (← asAddr (tm.getD a undef)) : Sem Value)) = resM tm := by funext r; cases r <;> rfl
  rw [← this]
  rfl
theorem cellOf_ok {r : R1} {s : SV} (h : cellOf r = some s) : R1OK (fun u _ _ => u = s) r := by
  cases r with
  | ok u H n => simp only [cellOf, Option.some.injEq] at h; exact h
  | _ => simp [cellOf] at h
theorem sLoad_nx {agg : Option Bool} {size : Option Nat} {H : Heap} {n m : Nat} {p : Option SV} {s : SV} (h : cellOf (sLoad agg size H n p) = some s) : R1OK (fun u _ _ => u = s) (sLoad agg size H m p) := by
  have key : cellOf (sLoad agg size H m p) = cellOf (sLoad agg size H n p) := by
    have h1 : ∀ (x : Option SV), cellOf (rOf x H m) = cellOf (rOf x H n) := by intro x; cases x <;> rfl
    have h2 : ∀ b q sz e r, ∀ B, cellOf (sLoadIn b q sz e r H m B) = cellOf (sLoadIn b q sz e r H n B) := by
      intro b q sz e r B
      cases B with
      | none => rfl
      | some B =>
        cases B with
        | own cs T =>
          simp only [sLoadIn]
          cases cut cs (e * sz + r) q with
          | none => rfl
          | some l => exact h1 _
        | row s' cap T xs =>
          simp only [sLoadIn]
          split
          · rfl
          · split <;> rfl
        | _ => rfl
    unfold sLoad
    split
    · split
      · exact h2 _ _ _ _ _ _
      · rfl
    · split
      · split
        · exact h1 _
        · rfl
      · rfl
    · rfl
  exact cellOf_ok (key.trans h)
theorem cellW_ok {agg : Option Bool} {size : Option Nat} {H : Heap} {m : Nat} {p : Option SV} {s : SV} (h : cellW agg size H p = some s) : R1OK (fun u _ _ => u = s) (sLoad agg size H m p) := by
  unfold cellW at h
  split at h
  case h_2 => exact sLoad_nx h
  rename_i s' hc
  simp only [Option.some.injEq] at h
  subst h
  unfold cellRow at hc
  split at hc
  case h_2 => cases hc
  split at hc
  case h_2 => cases hc
  rename_i hg
  split at hc
  case h_2 => cases hc
  split at hc
  case isFalse => cases hc
  rename_i hn
  simp only [Option.some.injEq] at hc
  subst hc
  simp only [sLoad, sLoadIn, hg]
  rw [if_neg hn.2, if_pos ⟨trivial, trivial, trivial, trivial⟩]
  exact ⟨hn.1, fun _ => rfl⟩
theorem resOf_run {P : Program} {x : Ctx} {ν : Nm} {H : Heap} {nt : Nat} {env : Env} {tm : Array Value} {w : World} (hH : Holds x ν H w) (hE : RelE ν nt env tm) : ∀ {l : List ResultVar} {ss : List SV}, resOf P env H l = some ss →
    ∃ vs : List Value, (l.mapM (resM tm)).run P w = .ok vs w ∧ RelL ν ss vs
  | [], ss, h => by simp [resOf] at h; subst h; exact ⟨[], by simp, rfl⟩
  | .tmp t :: l, ss, h => by
    simp only [resOf] at h
    cases h1 : env.get t with
    | none => simp [h1] at h
    | some s =>
      cases h2 : resOf P env H l with
      | none => simp [h1, h2] at h
      | some r =>
        simp only [h1, h2, Option.some.injEq] at h
        subst h
        obtain ⟨y, k1, k2⟩ := hE.2 t s h1
        obtain ⟨vs, k3, k4⟩ := resOf_run (P := P) (w := w) hH hE h2
        refine ⟨y :: vs, ?_, ⟨y, vs, rfl, k2, k4⟩⟩
        simp only [List.mapM_cons, resM, Sem.run_bind, Sem.run_pure, Result.andThen_ok, k3]
        simp [Array.getD_eq_getD_getElem?, k1]
  | .cell a t :: l, ss, h => by
    simp only [resOf] at h
    cases h1 : cellW (tyAgg P t) (tySize P t) H (env.get a) with
    | none => simp [h1] at h
    | some s =>
      cases h2 : resOf P env H l with
      | none => simp [h1, h2] at h
      | some r =>
        simp only [h1, h2, Option.some.injEq] at h
        subst h
        obtain ⟨vs, k3, k4⟩ := resOf_run (P := P) (w := w) hH hE h2
        have hl := cellW_ok (m := ν.nx) h1
        cases h3 : env.get a with
        | none => rw [h3] at hl; exact hl.elim
        | some p =>
          obtain ⟨y, k1, k2⟩ := hE.2 a p h3
          rw [h3] at hl
          obtain ⟨v, s', q1, q2, q3⟩ := load_sound (P := P) (s := some p) (y := y) hH (fun u hu => by simp only [Option.some.injEq] at hu; exact hu ▸ k2) hl
          have q1 := q1 w (.refl w)
          subst q3
          have hy : tm.getD a undef = y := by simp [Array.getD_eq_getD_getElem?, k1]
          have hlv : (do loadVar t (← asAddr y) : Sem Value).run P w = .ok v w := by
            unfold sLoad at hl
            split at hl
            · rename_i id sz e r heq
              simp only [Option.some.injEq] at heq
              subst heq
              simp only [Rel] at k2
              obtain ⟨_, rfl⟩ := k2
              simp only [Instr.loadAt, Instr.sureAddr, Sem.run_bind, Sem.run_pure, Result.andThen_ok] at q1
              simp only [asAddr, Sem.run_bind, Sem.run_pure, Result.andThen_ok]
              cases hlr : (loadVar t ⟨ν.blk id, e * sz + r, none⟩).run P w with
              | ok v' w' => rw [hlr] at q1; simpa using q1
              | halt hh w' => rw [hlr] at q1; simp at q1
            · rename_i xr r heq
              simp only [Option.some.injEq] at heq
              subst heq
              simp only [Rel] at k2
              obtain ⟨b, o, c, ys, rfl, _⟩ := k2
              simp only [Instr.loadAt, Instr.sureAddr, Sem.run_bind, Sem.run_pure, Result.andThen_ok] at q1
              simp only [asAddr, Sem.run_bind, Sem.run_pure, Result.andThen_ok]
              cases hlr : (loadVar t ⟨b, o + r, none⟩).run P w with
              | ok v' w' => rw [hlr] at q1; simpa using q1
              | halt hh w' => rw [hlr] at q1; simp at q1
            · exact hl.elim
          refine ⟨v :: vs, ?_, ⟨v, vs, rfl, q2, k4⟩⟩
          simp only [List.mapM_cons, resM, hy]
          rw [Sem.run_bind, hlv, Result.andThen_ok, Sem.run_bind, k3, Result.andThen_ok]
          rfl
theorem results_run {P : Program} {x : Ctx} {ν : Nm} {H : Heap} {nt : Nat} {env : Env} {tm : Array Value} {w : World} {fn : Func} {ss : List SV} (hH : Holds x ν H w) (hE : RelE ν nt env tm) (h : resOf P env H fn.results.toList = some ss) :
    ∃ v, (results fn tm).run P w = .ok v w ∧ Rel ν (resV ss) v := by
  obtain ⟨vs, h1, h2⟩ := resOf_run (P := P) (w := w) hH hE h
  refine ⟨if h : vs.toArray.size = 1 then vs.toArray[0] else .tuple vs.toArray, ?_, ?_⟩
  · rw [results_eq]
    simp only [Array.mapM_eq_mapM_toList, Sem.run_bind, Sem.run_map, h1, Result.andThen_ok]
    rfl
  · match ss, vs, h2 with
    | [s], vs, h2 =>
      simp only [RelL] at h2
      obtain ⟨y, ys, rfl, h3, rfl⟩ := h2
      exact h3
    | [], vs, h2 => simp only [RelL] at h2; subst h2; exact ⟨#[], rfl, rfl⟩
    | s :: t :: r, vs, h2 =>
      have hl := h2.length
      rw [dif_neg (by simp at hl ⊢; omega)]
      exact ⟨_, rfl, h2⟩
def defOK (H : Heap) : List Nat → Prop
  | [] => True
  | id :: l => H.get id = some (.obj (.deferred (some []))) ∧ defOK (H.drop id) l
def dropL : List Nat → Heap → Heap
  | [], H => H
  | id :: l, H => dropL l (H.drop id)
theorem lands_unwind {P : Program} {f : FuncId} {fn : Func} {cs : List Frame} {x : Ctx} {ν : Nm} {R : Value → World → Prop} {tm : Array Value} {todo : List Item} {env : Env} {nt : Nat} {ss : List SV} (hf : P.funcs[f]? = some fn) (hE : RelE ν nt env tm) :
    ∀ (dfs : List Nat) (H : Heap) (w : World), Holds x ν H w → defOK H dfs → resOf P env (dropL dfs H) fn.results.toList = some ss →
      (∀ w v, Holds x ν (dropL dfs H) w → Rel ν (resV ss) v → R v w) →
      Lands P (lone { fr (base f) ⟨tm, dfs.map fun id => { target := .collected (ν.blk id), args := #[] }⟩ todo with mode := .returning } cs w) (Back P f cs R)
  | [], H, w, hH, _, hres, hfin => by
    obtain ⟨v, h1, h2⟩ := results_run (P := P) (w := w) hH hE hres
    exact .now ⟨_, v, w, rfl, rfl, ⟨rfl, rfl, rfl, fn, hf, h1⟩, hfin w v hH h2⟩
  | id :: dfs, H, w, hH, hd, hres, hfin => by
    obtain ⟨hid, hd⟩ := hd
    obtain ⟨_, _, hob⟩ := hH.ok id _ hid
    have hlt : ν.blk id < w.heap.size := (Array.getElem?_eq_some_iff.1 hob).1
    have hH1 : Holds x ν (H.drop id) { w with heap := w.heap.setIfInBounds (ν.blk id) (.deferred none) } := by
      have h1 : Holds x ν (H.set id (.obj (.deferred none))) { w with heap := w.heap.setIfInBounds (ν.blk id) (.deferred none) } :=
        hH.write hid trivial (fun k hk => by simp [Array.getElem?_setIfInBounds, Ne.symm hk]) (by simp) ⟨rfl, rfl, rfl⟩ ⟨hH.lt hid, by simp, by simp [hlt]⟩
      refine h1.less fun i b hb => ?_
      rw [Heap.get_drop] at hb
      split at hb
      · cases hb
      · rename_i hne
        rw [Heap.get_set, if_neg hne]; exact hb
    refine .step (m₁ := lone { fr (base f) ⟨tm, dfs.map fun id => { target := .collected (ν.blk id), args := #[] }⟩ todo with mode := .returning } cs { w with heap := w.heap.setIfInBounds (ν.blk id) (.deferred none) }) (step_lone_go ?_) ?_
    · have hrun : (Instr.takeDeferred (ν.blk id)).run P w = .ok [] { w with heap := w.heap.setIfInBounds (ν.blk id) (.deferred none) } := by
        simp [Instr.takeDeferred, getObj, setObj, Sem.run, hob]
      simp only [fr, List.map_cons, stepG, unwind]
      simp [Sem.runT_eq, hrun]
    · exact lands_unwind hf hE dfs (H.drop id) _ hH1 hd hres hfin
section
variable {P : Program} {f : FuncId} {cs : List Frame} {R : Value → World → Prop} {fn : Func} {x : Ctx} {k : List Item} {env : Env} {H : Heap} {nx : Nat} {ss : List SV} {hm : P.follows .mixedOrders = true} {dfs : List Nat}
theorem Sat.ret (hf : P.funcs[f]? = some fn) (hd : defOK H dfs) (hres : resOf P env (dropL dfs H) fn.results.toList = some ss)
    (hR : ∀ ν w v, ν.nx = nx → Holds x ν (dropL dfs H) w → Rel ν (resV ss) v → R v w) : Sat (kfun P hm f fn.ntmps cs R) x ⟨.code .ret :: k, env, H, nx, dfs⟩ := by
  intro ν w a hn hH hE hD
  refine .step (m₁ := lone { fr (base f) a (.code .ret :: k) with mode := .returning } cs w) (step_lone_go (by simp [stepG, stepG.exec, fr, base, kfun]; rfl)) ?_
  obtain ⟨tm, ds⟩ := a
  obtain ⟨_, rfl⟩ := hD
  exact lands_unwind hf hE dfs H w hH hd hres (fun w' v h1 h2 => hR ν w' v hn h1 h2)
theorem Sat.fin (hf : P.funcs[f]? = some fn) (hd : defOK H dfs) (hres : resOf P env (dropL dfs H) fn.results.toList = some ss)
    (hR : ∀ ν w v, ν.nx = nx → Holds x ν (dropL dfs H) w → Rel ν (resV ss) v → R v w) : Sat (kfun P hm f fn.ntmps cs R) x ⟨[], env, H, nx, dfs⟩ := by
  intro ν w a hn hH hE hD
  refine .step (m₁ := lone { fr (base f) a [] with mode := .returning } cs w) (step_lone_go (by simp [stepG, stepG.exec, fr, base, kfun]; rfl)) ?_
  obtain ⟨tm, ds⟩ := a
  obtain ⟨_, rfl⟩ := hD
  exact lands_unwind hf hE dfs H w hH hd hres (fun w' v h1 h2 => hR ν w' v hn h1 h2)
end
def EnvSub (e e' : Env) : Prop := ∀ t s, e.get t = some s → e'.get t = some s
def HeapSub (h h' : Heap) : Prop := ∀ i b, h.get i = some b → h'.get i = some b
theorem EnvSub.nil (e : Env) : EnvSub [] e := fun _ _ h => by simp [Env.get] at h
theorem EnvSub.cons {e e' : Env} {t : Nat} {s : SV} (h : e'.get t = some s) (k : EnvSub e e') : EnvSub ((t, s) :: e) e' := by
  intro u r hu
  simp only [Env.get] at hu
  split at hu
  · rename_i e; subst e; simp at hu; subst hu; exact h
  · exact k u r hu
theorem HeapSub.nil (e : Heap) : HeapSub [] e := fun _ _ h => by simp [Heap.get] at h
theorem HeapSub.cons {e e' : Heap} {t : Nat} {s : Blk} (h : e'.get t = some s) (k : HeapSub e e') : HeapSub ((t, s) :: e) e' := by
  intro u r hu
  simp only [Heap.get] at hu
  split at hu
  · rename_i e; subst e; simp at hu; subst hu; exact h
  · exact k u r hu
theorem Sat.less {κ : Kx} {x : Ctx} {k : List Item} {e e' : Env} {h h' : Heap} {nx : Nat} {dfs : List Nat} (hs : Sat κ x ⟨k, e, h, nx, dfs⟩) (he : EnvSub e e') (hh : HeapSub h h') : Sat κ x ⟨k, e', h', nx, dfs⟩ :=
  fun ν w a hn hH hE hD => hs ν w a hn (hH.less hh) ⟨hE.1, fun t s ht => hE.2 t s (he t s ht)⟩ hD
end Go.Sy

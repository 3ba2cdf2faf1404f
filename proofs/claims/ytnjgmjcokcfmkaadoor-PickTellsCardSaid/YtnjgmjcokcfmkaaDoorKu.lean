/- Kuhn's paths find a match just if there is one; the first match. In plain Lean. No condition. -/
import Derived.Test.YtnjgmjcokcfmkaaDoorGz
namespace Go.Proofs.YtnjgmjcokcfmkaaDoor
set_option maxRecDepth 100000
set_option linter.unusedSimpArgs false
set_option linter.unusedVariables false
set_option linter.unusedSimpArgs false
set_option linter.unusedVariables false

/-- Rows of choices have a perfect match. -/
def PM (rows : List (List Int)) : Prop := ∃ f : Nat → Int, (∀ i, i < rows.length → f i ∈ rows.getD i []) ∧ ∀ i j, i < rows.length → j < rows.length → f i = f j → i = j
abbrev Has := Int → Option Nat
abbrev Ask := Int → Bool
def setH (h : Has) (c : Int) (i : Nat) : Has := fun x => if x = c then some i else h x
def setA (A : Ask) (c : Int) : Ask := fun x => if x = c then true else A x
/-- A row's choices one after the other. -/
def gl (rec : Nat → Has → Ask → Bool × Has × Ask) (i : Nat) : List Int → Has → Ask → Bool × Has × Ask
  | [], h, A => (false, h, A)
  | c :: l, h, A => if A c = true then gl rec i l h A else
    match h c with
    | none => (true, setH h c i, setA A c)
    | some o => if (rec o h (setA A c)).1 = true then (true, setH (rec o h (setA A c)).2.1 c i, (rec o h (setA A c)).2.2) else gl rec i l (rec o h (setA A c)).2.1 (rec o h (setA A c)).2.2
def gv (rows : List (List Int)) : Nat → Nat → Has → Ask → Bool × Has × Ask
  | 0, i, h, A => gl (fun _ h A => (false, h, A)) i (rows.getD i []) h A
  | n + 1, i, h, A => gl (gv rows n) i (rows.getD i []) h A
/-- How many of the eight are not asked yet. -/
def un (A : Ask) : Nat := ([0, 1, 2, 3, 4, 5, 6, 7] : List Int).countP fun c => !A c
theorem countP_set {l : List Int} (hl : l.Nodup) {A : Ask} {c : Int} (h : A c = false) : c ∈ l → (l.countP fun x => !A x) = (l.countP fun x => !setA A c x) + 1 := by
  induction l with
  | nil => intro hc; cases hc
  | cons x l ih =>
    intro hc
    rw [List.nodup_cons] at hl
    rw [List.countP_cons, List.countP_cons]
    by_cases hx : x = c
    · subst hx
      have : (l.countP fun y => !A y) = l.countP fun y => !setA A x y := by
        apply List.countP_congr
        intro y hy
        have : y ≠ x := fun e => hl.1 (e ▸ hy)
        simp [setA, this]
      rw [this]
      simp [h, setA]
    · have hcl : c ∈ l := by
        rcases List.mem_cons.1 hc with e | e
        · exact absurd e.symm hx
        · exact e
      rw [ih hl.2 hcl]
      have : setA A c x = A x := by simp [setA, hx]
      rw [this]; omega
abbrev cpu8 (c : Int) : Prop := 0 ≤ c ∧ c < 8
theorem un_set {A : Ask} {c : Int} (hc : cpu8 c) (h : A c = false) : un A = un (setA A c) + 1 := by
  refine countP_set (by decide) h ?_
  have : c = 0 ∨ c = 1 ∨ c = 2 ∨ c = 3 ∨ c = 4 ∨ c = 5 ∨ c = 6 ∨ c = 7 := by obtain ⟨h1, h2⟩ := hc; omega
  rcases this with rfl | rfl | rfl | rfl | rfl | rfl | rfl | rfl <;> decide
abbrev okR (rows : List (List Int)) : Prop := ∀ r ∈ rows, ∀ c ∈ r, cpu8 c
theorem getD_row {rows : List (List Int)} (h : okR rows) (i : Nat) : ∀ c ∈ rows.getD i [], cpu8 c := by
  intro c hc
  rw [List.getD] at hc
  cases hi : rows[i]? with
  | none => rw [hi] at hc; cases hc
  | some r => rw [hi] at hc; exact h r (List.mem_of_getElem? hi) c hc
/-- It went well: one more has a place; those asked keep theirs. -/
structure Won (rows : List (List Int)) (i : Nat) (h : Has) (A : Ask) (q : Bool × Has × Ask) : Prop where
  sub : ∀ c, A c = true → q.2.2 c = true
  keep : ∀ c, A c = true → q.2.1 c = h c
  own : ∃ c, A c = false ∧ q.2.1 c = some i
  inj : ∀ c d k, A c = false → A d = false → q.2.1 c = some k → q.2.1 d = some k → c = d
  rng : ∀ k, (∃ c, A c = false ∧ q.2.1 c = some k) ↔ (k = i ∨ ∃ c, A c = false ∧ h c = some k)
  ok : ∀ c k, q.2.1 c = some k → c ∈ rows.getD k []
/-- It did not: what was asked is closed. -/
structure Lost (rows : List (List Int)) (h : Has) (A : Ask) (q : Bool × Has × Ask) : Prop where
  same : q.2.1 = h
  sub : ∀ c, A c = true → q.2.2 c = true
  cls : ∀ c, q.2.2 c = true → A c = false → ∃ o, h c = some o ∧ ∀ d ∈ rows.getD o [], q.2.2 d = true
  in8 : ∀ c, q.2.2 c = true → A c = false → cpu8 c
def RecOK (rows : List (List Int)) (rec : Nat → Has → Ask → Bool × Has × Ask) (n : Nat) : Prop := ∀ i h A, un A ≤ n →
  (∀ c d k, A c = false → A d = false → h c = some k → h d = some k → c = d) → (∀ c, A c = false → h c ≠ some i) → (∀ c k, h c = some k → c ∈ rows.getD k []) →
  ((rec i h A).1 = true → Won rows i h A (rec i h A)) ∧ ((rec i h A).1 = false → Lost rows h A (rec i h A) ∧ ∀ d ∈ rows.getD i [], (rec i h A).2.2 d = true)
theorem gl_ok {rows : List (List Int)} (hr : okR rows) {rec : Nat → Has → Ask → Bool × Has × Ask} {n : Nat} (ih : ∀ m, m + 1 ≤ n → RecOK rows rec m) (i : Nat) (h : Has) :
    ∀ (l : List Int) (A : Ask), (∀ c ∈ l, c ∈ rows.getD i []) → un A ≤ n →
    (∀ c d k, A c = false → A d = false → h c = some k → h d = some k → c = d) → (∀ c, A c = false → h c ≠ some i) → (∀ c k, h c = some k → c ∈ rows.getD k []) →
    ((gl rec i l h A).1 = true → Won rows i h A (gl rec i l h A)) ∧ ((gl rec i l h A).1 = false → Lost rows h A (gl rec i l h A) ∧ ∀ d ∈ l, (gl rec i l h A).2.2 d = true)
  | [], A, _, _, _, _, _ => by
    refine ⟨(fun x => nomatch x), fun _ => ⟨⟨rfl, fun c hc => hc, ?_, ?_⟩, fun d hd => nomatch hd⟩⟩
    · intro c hc hn
      have hc : A c = true := hc
      rw [hc] at hn; cases hn
    · intro c hc hn
      have hc : A c = true := hc
      rw [hc] at hn; cases hn
  | c :: l, A, hl, hu, hi, hni, hok => by
    have hl' : ∀ d ∈ l, d ∈ rows.getD i [] := fun d hd => hl d (by simp [hd])
    have hc8 := getD_row hr i c (hl c (by simp))
    rw [gl]
    by_cases ha : A c = true
    · rw [if_pos ha]
      obtain ⟨h1, h2⟩ := gl_ok hr ih i h l A hl' hu hi hni hok
      refine ⟨h1, fun x => ?_⟩
      obtain ⟨g1, g2⟩ := h2 x
      refine ⟨g1, fun d hd => ?_⟩
      rcases List.mem_cons.1 hd with rfl | hd
      · exact g1.sub _ ha
      · exact g2 d hd
    · rw [if_neg ha]
      have ha : A c = false := by simpa using ha
      have hun := un_set hc8 ha
      cases hh : h c with
      | none =>
        dsimp only
        refine ⟨fun _ => ⟨?_, ?_, ⟨c, ha, by simp [setH]⟩, ?_, ?_, ?_⟩, fun x => nomatch x⟩
        · intro d hd; simp [setA, hd]
        · intro d hd
          have : d ≠ c := fun e => by rw [e, ha] at hd; cases hd
          simp [setH, this]
        · intro d e k hd he h1 h2
          simp only [setH] at h1 h2
          by_cases d1 : d = c
          · by_cases e1 : e = c
            · rw [d1, e1]
            · rw [if_pos d1] at h1; rw [if_neg e1] at h2
              rw [← h1] at h2
              exact absurd h2 (hni e he)
          · rw [if_neg d1] at h1
            by_cases e1 : e = c
            · rw [if_pos e1] at h2
              rw [← h2] at h1
              exact absurd h1 (hni d hd)
            · rw [if_neg e1] at h2
              exact hi d e k hd he h1 h2
        · intro k
          constructor
          · rintro ⟨d, hd, h1⟩
            simp only [setH] at h1
            by_cases d1 : d = c
            · rw [if_pos d1] at h1; exact Or.inl (Option.some.inj h1).symm
            · rw [if_neg d1] at h1; exact Or.inr ⟨d, hd, h1⟩
          · rintro (rfl | ⟨d, hd, h1⟩)
            · exact ⟨c, ha, by simp [setH]⟩
            · have : d ≠ c := fun e => by rw [e, hh] at h1; cases h1
              exact ⟨d, hd, by simp [setH, this, h1]⟩
        · intro d k h1
          simp only [setH] at h1
          by_cases d1 : d = c
          · rw [if_pos d1] at h1
            rw [d1, ← Option.some.inj h1]; exact hl c (by simp)
          · rw [if_neg d1] at h1; exact hok d k h1
      | some o =>
        dsimp only
        have sA : ∀ d, setA A c d = false → A d = false ∧ d ≠ c := fun d hd => by
          simp only [setA] at hd
          by_cases e : d = c
          · rw [if_pos e] at hd; cases hd
          · rw [if_neg e] at hd; exact ⟨hd, e⟩
        have sB : ∀ d, A d = false → d ≠ c → setA A c d = false := fun d hd e => by simp [setA, hd, e]
        obtain ⟨w, x⟩ := ih (un (setA A c)) (by omega) o h (setA A c) (Nat.le_refl _) (fun d e k hd he => hi d e k (sA d hd).1 (sA e he).1)
          (fun d hd he => (sA d hd).2 (hi d c o (sA d hd).1 ha he hh)) hok
        generalize rec o h (setA A c) = q at *
        by_cases hq : q.1 = true
        · rw [if_pos hq]
          obtain ⟨w1, w2, w3, w4, w5, w6⟩ := w hq
          have wc : q.2.1 c = some o := by rw [w2 c (by simp [setA]), hh]
          have wi : ∀ d, setA A c d = false → q.2.1 d ≠ some i := fun d hd he => by
            rcases (w5 i).1 ⟨d, hd, he⟩ with e | ⟨e, he1, he2⟩
            · exact hni c ha (by rw [hh, e])
            · exact hni e (sA e he1).1 he2
          refine ⟨fun _ => ⟨?_, ?_, ⟨c, ha, by simp [setH]⟩, ?_, ?_, ?_⟩, fun x => nomatch x⟩
          · intro d hd; exact w1 d (by simp [setA, hd])
          · intro d hd
            have : d ≠ c := fun e => by rw [e, ha] at hd; cases hd
            simp only [setH, if_neg this]
            exact w2 d (by simp [setA, hd])
          · intro d e k hd he h1 h2
            simp only [setH] at h1 h2
            by_cases d1 : d = c
            · by_cases e1 : e = c
              · rw [d1, e1]
              · rw [if_pos d1] at h1; rw [if_neg e1] at h2
                rw [← h1] at h2
                exact absurd h2 (wi e (sB e he e1))
            · rw [if_neg d1] at h1
              by_cases e1 : e = c
              · rw [if_pos e1] at h2
                rw [← h2] at h1
                exact absurd h1 (wi d (sB d hd d1))
              · rw [if_neg e1] at h2
                exact w4 d e k (sB d hd d1) (sB e he e1) h1 h2
          · intro k
            constructor
            · rintro ⟨d, hd, h1⟩
              simp only [setH] at h1
              by_cases d1 : d = c
              · rw [if_pos d1] at h1; exact Or.inl (Option.some.inj h1).symm
              · rw [if_neg d1] at h1
                rcases (w5 k).1 ⟨d, sB d hd d1, h1⟩ with e | ⟨e, he1, he2⟩
                · exact Or.inr ⟨c, ha, by rw [hh, e]⟩
                · exact Or.inr ⟨e, (sA e he1).1, he2⟩
            · rintro (rfl | ⟨d, hd, h1⟩)
              · exact ⟨c, ha, by simp [setH]⟩
              · have hk : k = o ∨ ∃ e, setA A c e = false ∧ h e = some k := by
                  by_cases d1 : d = c
                  · rw [d1, hh] at h1; exact Or.inl (Option.some.inj h1).symm
                  · exact Or.inr ⟨d, sB d hd d1, h1⟩
                obtain ⟨e, he1, he2⟩ := (w5 k).2 hk
                exact ⟨e, (sA e he1).1, by simp only [setH, if_neg (sA e he1).2]; exact he2⟩
          · intro d k h1
            simp only [setH] at h1
            by_cases d1 : d = c
            · rw [if_pos d1] at h1
              rw [d1, ← Option.some.inj h1]; exact hl c (by simp)
            · rw [if_neg d1] at h1; exact w6 d k h1
        · rw [if_neg hq]
          obtain ⟨⟨l1, l2, l3, l4⟩, l5⟩ := x (by simpa using hq)
          obtain ⟨b, h', A2⟩ := q
          dsimp only at l1 l2 l3 l4 l5 ⊢
          subst l1
          have mono : ∀ d, A2 d = false → A d = false := fun d hd => by
            cases e : A d
            · rfl
            · rw [l2 d (by simp [setA, e])] at hd; cases hd
          have hu2 : un A2 ≤ n := by
            refine Nat.le_trans ?_ hu
            refine List.countP_mono_left fun d _ hd => ?_
            have hd : A2 d = false := by simpa using hd
            simp [mono d hd]
          obtain ⟨g1, g2⟩ := gl_ok hr ih i h' l A2 hl' hu2 (fun d e k hd he => hi d e k (mono d hd) (mono e he)) (fun d hd => hni d (mono d hd)) hok
          have a2c : A2 c = true := l2 c (by simp [setA])
          constructor
          · intro hx
            obtain ⟨w1, w2, w3, w4, w5, w6⟩ := g1 hx
            refine ⟨fun d hd => w1 d (l2 d (by simp [setA, hd])), fun d hd => w2 d (l2 d (by simp [setA, hd])), ?_, ?_, ?_, w6⟩
            · obtain ⟨d, hd1, hd2⟩ := w3
              exact ⟨d, mono d hd1, hd2⟩
            · intro d e k hd he h1 h2
              cases ed : A2 d <;> cases ee : A2 e
              · exact w4 d e k ed ee h1 h2
              · rw [w2 e ee] at h2
                rcases (w5 k).1 ⟨d, ed, h1⟩ with rfl | ⟨f, hf1, hf2⟩
                · exact absurd h2 (hni e he)
                · have := hi f e k (mono f hf1) he hf2 h2
                  rw [this, ee] at hf1; cases hf1
              · rw [w2 d ed] at h1
                rcases (w5 k).1 ⟨e, ee, h2⟩ with rfl | ⟨f, hf1, hf2⟩
                · exact absurd h1 (hni d hd)
                · have := hi f d k (mono f hf1) hd hf2 h1
                  rw [this, ed] at hf1; cases hf1
              · rw [w2 d ed] at h1; rw [w2 e ee] at h2
                exact hi d e k hd he h1 h2
            · intro k
              constructor
              · rintro ⟨d, hd, h1⟩
                cases ed : A2 d
                · rcases (w5 k).1 ⟨d, ed, h1⟩ with e | ⟨f, hf1, hf2⟩
                  · exact Or.inl e
                  · exact Or.inr ⟨f, mono f hf1, hf2⟩
                · rw [w2 d ed] at h1; exact Or.inr ⟨d, hd, h1⟩
              · rintro (e | ⟨d, hd, h1⟩)
                · obtain ⟨f, hf1, hf2⟩ := (w5 k).2 (Or.inl e)
                  exact ⟨f, mono f hf1, hf2⟩
                · cases ed : A2 d
                  · obtain ⟨f, hf1, hf2⟩ := (w5 k).2 (Or.inr ⟨d, ed, h1⟩)
                    exact ⟨f, mono f hf1, hf2⟩
                  · exact ⟨d, hd, by rw [w2 d ed]; exact h1⟩
          · intro hx
            obtain ⟨⟨m1, m2, m3, m4⟩, m5⟩ := g2 hx
            refine ⟨⟨m1, fun d hd => m2 d (l2 d (by simp [setA, hd])), ?_, ?_⟩, ?_⟩
            · intro d hd hA
              cases ed : A2 d
              · exact m3 d hd ed
              · by_cases dc : d = c
                · exact ⟨o, by rw [dc]; exact hh, fun e he => m2 e (l5 e he)⟩
                · obtain ⟨o', ho1, ho2⟩ := l3 d ed (sB d hA dc)
                  exact ⟨o', ho1, fun e he => m2 e (ho2 e he)⟩
            · intro d hd hA
              cases ed : A2 d
              · exact m4 d hd ed
              · by_cases dc : d = c
                · rw [dc]; exact hc8
                · exact l4 d ed (sB d hA dc)
            · intro d hd
              rcases List.mem_cons.1 hd with rfl | hd
              · exact m2 _ a2c
              · exact m5 d hd
theorem gv_ok {rows : List (List Int)} (hr : okR rows) : ∀ n, ∀ m, m ≤ n → RecOK rows (gv rows n) m
  | 0, m, hm => fun i h A hu h1 h2 h3 => gl_ok hr (n := 0) (fun m hm => absurd hm (by omega)) i h _ A (fun c hc => hc) (Nat.le_trans hu hm) h1 h2 h3
  | n + 1, m, hm => fun i h A hu h1 h2 h3 => gl_ok hr (n := n + 1) (fun m hm => gv_ok hr n m (by omega)) i h _ A (fun c hc => hc) (Nat.le_trans hu hm) h1 h2 h3
theorem nodup_sub : ∀ (l m : List Int), l.Nodup → (∀ x ∈ l, x ∈ m) → l.length ≤ m.length
  | [], _, _, _ => Nat.zero_le _
  | x :: l, m, hn, hs => by
    rw [List.nodup_cons] at hn
    have hx := hs x (by simp)
    have h := nodup_sub l (m.erase x) hn.2 fun y hy => by
      have hne : y ≠ x := fun e => hn.1 (e ▸ hy)
      exact (List.mem_erase_of_ne hne).2 (hs y (by simp [hy]))
    rw [List.length_erase_of_mem hx] at h
    have : 0 < m.length := List.length_pos_of_mem hx
    rw [List.length_cons]; omega
theorem nodup_mapOn {α : Type} {f : Nat → Int} : ∀ {l : List Nat}, l.Nodup → (∀ x ∈ l, ∀ y ∈ l, f x = f y → x = y) → (l.map f).Nodup
  | [], _, _ => List.nodup_nil
  | x :: l, hn, hi => by
    rw [List.nodup_cons] at hn
    rw [List.map_cons, List.nodup_cons]
    refine ⟨fun h => ?_, nodup_mapOn (α := α) hn.2 fun a ha b hb => hi a (by simp [ha]) b (by simp [hb])⟩
    obtain ⟨y, hy, e⟩ := List.mem_map.1 h
    have := hi y (by simp [hy]) x (by simp) e
    exact hn.1 (this ▸ hy)
theorem nodup_mapOn' {f : Int → Nat} : ∀ {l : List Int}, l.Nodup → (∀ x ∈ l, ∀ y ∈ l, f x = f y → x = y) → (l.map f).Nodup
  | [], _, _ => List.nodup_nil
  | x :: l, hn, hi => by
    rw [List.nodup_cons] at hn
    rw [List.map_cons, List.nodup_cons]
    refine ⟨fun h => ?_, nodup_mapOn' hn.2 fun a ha b hb => hi a (by simp [ha]) b (by simp [hb])⟩
    obtain ⟨y, hy, e⟩ := List.mem_map.1 h
    have := hi y (by simp [hy]) x (by simp) e
    exact hn.1 (this ▸ hy)
def mtF (rows : List (List Int)) : Nat → Nat → Has → Bool
  | 0, _, _ => true
  | m + 1, k, h => if (gv rows 8 k h fun _ => false).1 = true then mtF rows m (k + 1) (gv rows 8 k h fun _ => false).2.1 else false
def matchB (rows : List (List Int)) : Bool := mtF rows rows.length 0 fun _ => none
structure InvM (rows : List (List Int)) (h : Has) (k : Nat) : Prop where
  inj : ∀ c d r, h c = some r → h d = some r → c = d
  rng : ∀ r, (∃ c, h c = some r) ↔ r < k
  ok : ∀ c r, h c = some r → c ∈ rows.getD r []
theorem hall_no {rows : List (List Int)} (hr : okR rows) {h : Has} {k : Nat} (hk : k < rows.length) (hi : InvM rows h k) {q : Bool × Has × Ask} (hl : Lost rows h (fun _ => false) q) (hc : ∀ d ∈ rows.getD k [], q.2.2 d = true) : ¬ PM rows := by
  rintro ⟨f, f1, f2⟩
  let B : List Int := [0, 1, 2, 3, 4, 5, 6, 7].filter q.2.2
  have hB : ∀ d, q.2.2 d = true → d ∈ B := fun d hd => by
    obtain ⟨h1, h2⟩ := hl.in8 d hd rfl
    refine List.mem_filter.2 ⟨?_, hd⟩
    have : d = 0 ∨ d = 1 ∨ d = 2 ∨ d = 3 ∨ d = 4 ∨ d = 5 ∨ d = 6 ∨ d = 7 := by omega
    rcases this with rfl | rfl | rfl | rfl | rfl | rfl | rfl | rfl <;> decide
  have hBq : ∀ d ∈ B, q.2.2 d = true := fun d hd => (List.mem_filter.1 hd).2
  have hBn : B.Nodup := List.Pairwise.filter _ (by decide)
  have own : ∀ d ∈ B, ∃ o, h d = some o ∧ (h d).getD 0 = o ∧ o < k ∧ ∀ e ∈ rows.getD o [], q.2.2 e = true := fun d hd => by
    obtain ⟨o, h1, h2⟩ := hl.cls d (hBq d hd) rfl
    exact ⟨o, h1, by rw [h1]; rfl, (hi.rng o).1 ⟨d, h1⟩, h2⟩
  let S : List Nat := k :: B.map fun d => (h d).getD 0
  have hS : S.Nodup := by
    refine List.nodup_cons.2 ⟨fun hm => ?_, nodup_mapOn' hBn fun x hx y hy e => ?_⟩
    · obtain ⟨d, hd, e⟩ := List.mem_map.1 hm
      obtain ⟨o, -, h2, h3, -⟩ := own d hd
      omega
    · obtain ⟨o, h1, h2, -, -⟩ := own x hx
      obtain ⟨o', h1', h2', -, -⟩ := own y hy
      have : o = o' := by rw [← h2, ← h2', e]
      subst this
      exact hi.inj x y o h1 h1'
  have hSr : ∀ s ∈ S, s < rows.length ∧ ∀ e ∈ rows.getD s [], q.2.2 e = true := fun s hs => by
    rcases List.mem_cons.1 hs with rfl | hs
    · exact ⟨hk, hc⟩
    · obtain ⟨d, hd, e⟩ := List.mem_map.1 hs
      obtain ⟨o, -, h2, h3, h4⟩ := own d hd
      have : s = o := by rw [← h2, ← e]
      subst this
      exact ⟨by omega, h4⟩
  have hL : (S.map f).Nodup := nodup_mapOn (α := Unit) hS fun x hx y hy e => f2 x y (hSr x hx).1 (hSr y hy).1 e
  have := nodup_sub (S.map f) B hL fun x hx => by
    obtain ⟨s, hs, rfl⟩ := List.mem_map.1 hx
    exact hB _ ((hSr s hs).2 _ (f1 s (hSr s hs).1))
  simp only [S, List.length_map, List.length_cons] at this
  omega
theorem mtF_ok {rows : List (List Int)} (hr : okR rows) : ∀ (m k : Nat) (h : Has), k + m = rows.length → InvM rows h k → (mtF rows m k h = true ↔ PM rows)
  | 0, k, h, hk, hi => by
    refine ⟨fun _ => ?_, fun _ => rfl⟩
    have hx : ∀ r, r < rows.length → ∃ c, h c = some r := fun r hr => (hi.rng r).2 (by omega)
    refine ⟨fun r => if hr : r < rows.length then Classical.choose (hx r hr) else 0, fun r hr => ?_, fun i j hi' hj e => ?_⟩
    · simp only [dif_pos hr]
      exact hi.ok _ _ (Classical.choose_spec (hx r hr))
    · simp only [dif_pos hi', dif_pos hj] at e
      have h1 := Classical.choose_spec (hx i hi')
      have h2 := Classical.choose_spec (hx j hj)
      rw [e, h2] at h1
      exact (Option.some.inj h1).symm
  | m + 1, k, h, hk, hi => by
    obtain ⟨w, x⟩ := gv_ok hr 8 8 (Nat.le_refl _) k h (fun _ => false) (by decide) (fun c d r _ _ => hi.inj c d r) (fun c _ e => absurd ((hi.rng k).1 ⟨c, e⟩) (Nat.lt_irrefl k)) hi.ok
    rw [mtF]
    generalize gv rows 8 k h (fun _ => false) = q at *
    by_cases hq : q.1 = true
    · rw [if_pos hq]
      obtain ⟨w1, w2, w3, w4, w5, w6⟩ := w hq
      refine mtF_ok hr m (k + 1) q.2.1 (by omega) ⟨fun c d r h1 h2 => w4 c d r rfl rfl h1 h2, fun r => ?_, w6⟩
      have h5 := w5 r
      constructor
      · rintro ⟨c, hc⟩
        rcases h5.1 ⟨c, rfl, hc⟩ with e | ⟨c', -, hc'⟩
        · omega
        · have := (hi.rng r).1 ⟨c', hc'⟩; omega
      · intro hr
        have : r = k ∨ ∃ c, (fun _ => false : Ask) c = false ∧ h c = some r := by
          by_cases e : r = k
          · exact Or.inl e
          · obtain ⟨c, hc⟩ := (hi.rng r).2 (by omega)
            exact Or.inr ⟨c, rfl, hc⟩
        obtain ⟨c, -, hc⟩ := h5.2 this
        exact ⟨c, hc⟩
    · rw [if_neg hq]
      obtain ⟨l1, l2⟩ := x (by simpa using hq)
      refine ⟨fun e => (nomatch e), fun hp => absurd hp (hall_no hr (by omega) hi l1 l2)⟩
theorem matchB_iff {rows : List (List Int)} (hr : okR rows) : matchB rows = true ↔ PM rows :=
  mtF_ok hr _ 0 _ (Nat.zero_add _) ⟨fun c d r h => (nomatch h), fun r => ⟨fun ⟨c, h⟩ => (nomatch h), fun h => absurd h (Nat.not_lt_zero _)⟩, fun c r h => (nomatch h)⟩
/-- The first match, behind some that are taken. -/
def fm : List Int → List (List Int) → Option (List Int)
  | t, [] => some t
  | t, r :: rest => r.findSome? fun c => if c ∈ t then none else fm (t ++ [c]) rest
/-- The same, one after the other, with a look ahead. -/
def gm : List Int → List (List Int) → List Int
  | t, [] => t
  | t, r :: rest => match r.find? fun c => decide (c ∉ t) && matchB ((t ++ [c]).map (fun c => [c]) ++ rest) with
    | some c => gm (t ++ [c]) rest
    | none => gm t rest
theorem PM_take {t : List Int} {r : List Int} {rest : List (List Int)} (h : PM (t.map (fun c => [c]) ++ r :: rest)) : ∃ c ∈ r, PM ((t ++ [c]).map (fun c => [c]) ++ rest) := by
  obtain ⟨f, h1, h2⟩ := h
  have hl : t.length < (t.map (fun c => [c]) ++ r :: rest).length := by simp
  have hc := h1 t.length hl
  have e : (t.map (fun c => [c]) ++ r :: rest).getD t.length [] = r := by
    simp [List.getD, List.getElem?_append_right]
  rw [e] at hc
  refine ⟨f t.length, hc, f, fun i hi => ?_, fun i j hi hj => h2 i j (by simp at hi ⊢; omega) (by simp at hj ⊢; omega)⟩
  rw [List.map_append, List.append_assoc, List.map_cons, List.map_nil, List.cons_append, List.nil_append]
  by_cases hit : i < t.length
  · have := h1 i (by simp; omega)
    simp only [List.getD, List.getElem?_append_left (show i < (t.map fun c => [c]).length by simpa using hit)] at this ⊢
    exact this
  by_cases hie : i = t.length
  · subst hie
    simp [List.getD, List.getElem?_append_right]
  · have := h1 i (by simp at hi ⊢; omega)
    obtain ⟨j, rfl⟩ : ∃ j, i = t.length + (j + 1) := ⟨i - t.length - 1, by omega⟩
    simp only [List.getD] at this ⊢
    rw [List.getElem?_append_right (by simp)] at this ⊢
    simpa using this
theorem PM_back {t : List Int} {c : Int} {r : List Int} {rest : List (List Int)} (hc : c ∈ r) (h : PM ((t ++ [c]).map (fun c => [c]) ++ rest)) : PM (t.map (fun c => [c]) ++ r :: rest) := by
  obtain ⟨f, h1, h2⟩ := h
  refine ⟨f, fun i hi => ?_, fun i j hi hj => h2 i j (by simp at hi ⊢; omega) (by simp at hj ⊢; omega)⟩
  have := h1 i (by simp at hi ⊢; omega)
  rw [List.map_append, List.append_assoc, List.map_cons, List.map_nil, List.cons_append, List.nil_append] at this
  by_cases hit : i < t.length
  · simp only [List.getD, List.getElem?_append_left (show i < (t.map fun c => [c]).length by simpa using hit)] at this ⊢
    exact this
  by_cases hie : i = t.length
  · subst hie
    simp [List.getD, List.getElem?_append_right] at this ⊢
    rw [this]; exact hc
  · obtain ⟨j, rfl⟩ : ∃ j, i = t.length + (j + 1) := ⟨i - t.length - 1, by omega⟩
    simp only [List.getD] at this ⊢
    rw [List.getElem?_append_right (by simp)] at this ⊢
    simpa using this
theorem PM_nodup {t : List Int} {c : Int} {rest : List (List Int)} (h : PM ((t ++ [c]).map (fun c => [c]) ++ rest)) : c ∉ t := by
  obtain ⟨f, h1, h2⟩ := h
  intro hm
  obtain ⟨i, hi, e⟩ := List.getElem_of_mem hm
  have g1 := h1 i (by simp; omega)
  have g2 := h1 t.length (by simp)
  rw [List.map_append, List.append_assoc, List.map_cons, List.map_nil, List.cons_append, List.nil_append] at g1 g2
  have e2 : f t.length = c := by
    simp only [List.getD] at g2
    rw [List.getElem?_append_right (by simp)] at g2
    simpa using g2
  have e1 : f i = c := by
    simp only [List.getD, List.getElem?_append_left (show i < (t.map fun c => [c]).length by simpa using hi)] at g1
    simp [hi] at g1
    rw [g1, e]
  have := h2 i t.length (by simp; omega) (by simp) (by rw [e1, e2])
  omega
theorem findSome_find {α : Type} {p : Int → Bool} {g : Int → Option α} : ∀ {l : List Int}, (∀ c ∈ l, (p c = true ↔ g c ≠ none)) → l.findSome? g = match l.find? p with
    | some c => g c
    | none => none
  | [], _ => rfl
  | c :: l, h => by
    have hc := h c (by simp)
    rw [List.findSome?_cons, List.find?_cons]
    cases hg : g c with
    | none =>
      have : p c = false := by
        cases hp : p c
        · rfl
        · exact absurd hg (hc.1 hp)
      rw [this]
      exact findSome_find fun d hd => h d (by simp [hd])
    | some x =>
      have : p c = true := hc.2 (by rw [hg]; simp)
      rw [this]
      exact hg.symm
theorem okR_t {t : List Int} {rest : List (List Int)} (ht : ∀ c ∈ t, cpu8 c) (hr : okR rest) : okR (t.map (fun c => [c]) ++ rest) := by
  intro r hr' c hc
  rcases List.mem_append.1 hr' with h | h
  · obtain ⟨d, hd, rfl⟩ := List.mem_map.1 h
    rw [List.mem_singleton.1 hc]; exact ht d hd
  · exact hr r h c hc
theorem fm_iff : ∀ (rest : List (List Int)) (t : List Int), okR rest → (∀ c ∈ t, cpu8 c) → t.Nodup →
    (fm t rest ≠ none ↔ PM (t.map (fun c => [c]) ++ rest)) ∧ (PM (t.map (fun c => [c]) ++ rest) → fm t rest = some (gm t rest))
  | [], t, hr, ht, hn => by
    have hp : PM (t.map (fun c => [c]) ++ []) := by
      refine ⟨fun i => t.getD i 0, fun i hi => ?_, fun i j hi hj e => ?_⟩
      · simp at hi
        simp [List.getD, hi]
      · simp at hi hj
        simp only [List.getD, List.getElem?_eq_getElem hi, List.getElem?_eq_getElem hj, Option.getD_some] at e
        exact (List.getElem_inj hn).1 e
    exact ⟨⟨fun _ => hp, fun _ => by simp [fm]⟩, fun _ => rfl⟩
  | r :: rest, t, hr, ht, hn => by
    have hr' : okR rest := fun x hx => hr x (by simp [hx])
    have step : ∀ c ∈ r, c ∉ t → (fm (t ++ [c]) rest ≠ none ↔ PM ((t ++ [c]).map (fun c => [c]) ++ rest)) ∧ (PM ((t ++ [c]).map (fun c => [c]) ++ rest) → fm (t ++ [c]) rest = some (gm (t ++ [c]) rest)) := fun c hc hct =>
      fm_iff rest (t ++ [c]) hr' (fun d hd => by
        rcases List.mem_append.1 hd with h | h
        · exact ht d h
        · rw [List.mem_singleton.1 h]; exact hr r (by simp) c hc) (by
        rw [List.nodup_append]
        exact ⟨hn, by simp, fun a ha b hb e => hct (by rw [List.mem_singleton.1 hb] at e; exact e ▸ ha)⟩)
    have mB : ∀ c ∈ r, (matchB ((t ++ [c]).map (fun c => [c]) ++ rest) = true ↔ PM ((t ++ [c]).map (fun c => [c]) ++ rest)) := fun c hc => matchB_iff (okR_t (fun d hd => by
        rcases List.mem_append.1 hd with h | h
        · exact ht d h
        · rw [List.mem_singleton.1 h]; exact hr r (by simp) c hc) hr')
    have key : ∀ c ∈ r, ((decide (c ∉ t) && matchB ((t ++ [c]).map (fun c => [c]) ++ rest)) = true ↔ (if c ∈ t then none else fm (t ++ [c]) rest) ≠ none) := fun c hc => by
      by_cases hct : c ∈ t
      · simp [hct]
      · rw [if_neg hct, (step c hc hct).1, ← mB c hc]
        simp [hct]
    have hfs := findSome_find (p := fun c => decide (c ∉ t) && matchB ((t ++ [c]).map (fun c => [c]) ++ rest)) (g := fun c => if c ∈ t then none else fm (t ++ [c]) rest) (l := r) key
    rw [fm, gm, hfs]
    cases hf : r.find? (fun c => decide (c ∉ t) && matchB ((t ++ [c]).map (fun c => [c]) ++ rest)) with
    | none =>
      have hno : ¬ PM (t.map (fun c => [c]) ++ r :: rest) := fun hp => by
        obtain ⟨c, hc, hpc⟩ := PM_take hp
        have := List.find?_eq_none.1 hf c hc
        refine this ?_
        rw [(mB c hc).2 hpc]
        simp [PM_nodup hpc]
      exact ⟨⟨fun h => absurd rfl h, fun h => absurd h hno⟩, fun h => absurd h hno⟩
    | some c =>
      have hc : c ∈ r := List.mem_of_find?_eq_some hf
      have hp := List.find?_some hf
      simp only [Bool.and_eq_true, decide_eq_true_eq] at hp
      obtain ⟨hct, hm⟩ := hp
      have hpm := (mB c hc).1 hm
      have s1 := (step c hc hct).2 hpm
      dsimp only
      rw [if_neg hct, s1]
      exact ⟨⟨fun _ => PM_back hc hpm, fun _ => by simp⟩, fun _ => rfl⟩
/-- What the code's match is. -/
theorem match_eq {rows : List (List Int)} (hr : okR rows) : fm [] rows = if matchB rows = true then some (gm [] rows) else none := by
  obtain ⟨h1, h2⟩ := fm_iff rows [] hr (fun c hc => nomatch hc) List.nodup_nil
  have hm := matchB_iff hr
  simp only [List.map_nil, List.nil_append] at h1 h2
  by_cases h : matchB rows = true
  · rw [if_pos h]; exact h2 (hm.1 h)
  · rw [if_neg h]
    cases hf : fm [] rows with
    | none => rfl
    | some x => exact absurd (hm.2 (h1.1 (by rw [hf]; simp))) h
end Go.Proofs.YtnjgmjcokcfmkaaDoor

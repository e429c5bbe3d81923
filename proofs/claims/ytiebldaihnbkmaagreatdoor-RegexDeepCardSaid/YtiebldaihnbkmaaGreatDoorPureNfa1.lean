/-
  What is proved here: patterns as trees; what they match (from a place to a place); machines of states that are built of them reach their last state just where the pattern matches. No conditions. (No program in sight.) What is proved here: the search through a machine, place by place: which states are reached without a sign, and which with one; a stack of states still to be entered. No conditions. (No program in sight.)
-/
set_option linter.unusedVariables false
set_option linter.unusedSimpArgs false
namespace Go.Nfa
inductive Nd where
 | mk (kind : Int) (set : List (Int × Int)) (no : Bool) (kids : List Nd) (min max : Int) : Nd
def inSet (set : List (Int × Int)) (no : Bool) (r : Int) : Bool := if set.any (fun x => decide (x.1 ≤ r) && decide (r ≤ x.2)) then !no else no
def Times (R : Nat → Nat → Prop) : Nat → Nat → Nat → Prop
 | 0, i, j => i = j
 | k + 1, i, j => ∃ m, R i m ∧ Times R k m j
structure Kinds where
 set : Int
 cat : Int
 alt : Int
 rep : Int
 beg : Int
 fin : Int
 ne : [set, cat, alt, rep, beg, fin].Nodup
section
variable (K : Kinds) (l : List Int)
end
inductive Sta where
 | takes (set : List (Int × Int)) (no : Bool) (x : Nat)
 | splits (x y : Nat)
 | begins (x : Nat)
 | ends (x : Nat)
 | done
inductive Step (L : List Sta) (l : List Int) : Nat × Nat → Nat × Nat → Prop
 | takes {s i x r set no} (h : L[s]? = some (.takes set no x)) (hr : l[i]? = some r) (hs : inSet set no r = true) : Step L l (s, i) (x, i + 1)
 | left {s i x y} (h : L[s]? = some (.splits x y)) : Step L l (s, i) (x, i)
 | right {s i x y} (h : L[s]? = some (.splits x y)) : Step L l (s, i) (y, i)
 | begins {s x} (h : L[s]? = some (.begins x)) : Step L l (s, 0) (x, 0)
 | ends {s x} (h : L[s]? = some (.ends x)) : Step L l (s, l.length) (x, l.length)
inductive Acc (L : List Sta) (l : List Int) (j : Nat) : Nat → Nat → Nat → Prop
 | done {s} (h : L[s]? = some .done) : Acc L l j 0 s j
 | step {s i t m n} (h : Step L l (s, i) (t, m)) (k : Acc L l j n t m) : Acc L l j (n + 1) s i
structure Frag (L : List Sta) (l : List Int) (R : Nat → Nat → Prop) (first next : Nat) : Prop where
 snd : ∀ j n i, Acc L l j n first i → ∃ m n', n' ≤ n ∧ R i m ∧ Acc L l j n' next m
 cpl : ∀ j n i m, R i m → Acc L l j n next m → ∃ n', Acc L l j n' first i
theorem Frag.id {L : List Sta} {l : List Int} {s : Nat} : Frag L l (fun i j => i = j) s s :=
 ⟨fun j n i h => ⟨i, n, Nat.le_refl _, rfl, h⟩, fun j n i m h k => by subst h; exact ⟨n, k⟩⟩
theorem Frag.congr {L : List Sta} {l : List Int} {R S : Nat → Nat → Prop} {a b : Nat} (h : Frag L l R a b) (e : ∀ i j, R i j ↔ S i j) : Frag L l S a b :=
 ⟨fun j n i ha => by obtain ⟨m, n', h1, h2, h3⟩ := h.snd j n i ha; exact ⟨m, n', h1, (e _ _).1 h2, h3⟩, fun j n i m hr => h.cpl j n i m ((e _ _).2 hr)⟩
theorem Frag.takes {L : List Sta} {l : List Int} {s x : Nat} {set : List (Int × Int)} {no : Bool} (h : L[s]? = some (.takes set no x)) : Frag L l (fun i j => j = i + 1 ∧ ∃ r, l[i]? = some r ∧ inSet set no r = true) s x := by
 refine ⟨fun j n i ha => ?_, fun j n i m ⟨hm, r, hr, hs⟩ hc => ?_⟩
 ·
  cases ha with
  | done hd => rw [h] at hd; cases hd
  | step hs hk =>
   cases hs with
   | takes h' hr hs => rw [h] at h'; cases h'; exact ⟨_, _, Nat.le_succ _, ⟨rfl, _, hr, hs⟩, hk⟩
   | left h' => rw [h] at h'; cases h'
   | right h' => rw [h] at h'; cases h'
   | begins h' => rw [h] at h'; cases h'
   | ends h' => rw [h] at h'; cases h'
 · subst hm; exact ⟨_, .step (.takes h hr hs) hc⟩
theorem Frag.begins {L : List Sta} {l : List Int} {s x : Nat} (h : L[s]? = some (.begins x)) : Frag L l (fun i j => i = 0 ∧ j = i) s x := by
 refine ⟨fun j n i ha => ?_, fun j n i m ⟨h0, hm⟩ hc => ?_⟩
 ·
  cases ha with
  | done hd => rw [h] at hd; cases hd
  | step hs hk =>
   cases hs with
   | takes h' hr hs => rw [h] at h'; cases h'
   | left h' => rw [h] at h'; cases h'
   | right h' => rw [h] at h'; cases h'
   | begins h' => rw [h] at h'; cases h'; exact ⟨0, _, Nat.le_succ _, ⟨rfl, rfl⟩, hk⟩
   | ends h' => rw [h] at h'; cases h'
 · subst h0 hm; exact ⟨_, .step (.begins h) hc⟩
theorem Frag.ends {L : List Sta} {l : List Int} {s x : Nat} (h : L[s]? = some (.ends x)) : Frag L l (fun i j => i = l.length ∧ j = i) s x := by
 refine ⟨fun j n i ha => ?_, fun j n i m ⟨h0, hm⟩ hc => ?_⟩
 ·
  cases ha with
  | done hd => rw [h] at hd; cases hd
  | step hs hk =>
   cases hs with
   | takes h' hr hs => rw [h] at h'; cases h'
   | left h' => rw [h] at h'; cases h'
   | right h' => rw [h] at h'; cases h'
   | begins h' => rw [h] at h'; cases h'
   | ends h' => rw [h] at h'; cases h'; exact ⟨_, _, Nat.le_succ _, ⟨rfl, rfl⟩, hk⟩
 · subst h0 hm; exact ⟨_, .step (.ends h) hc⟩
theorem Frag.split {L : List Sta} {l : List Int} {R S : Nat → Nat → Prop} {s x y next : Nat} (h : L[s]? = some (.splits x y)) (hx : Frag L l R x next) (hy : Frag L l S y next) : Frag L l (fun i j => R i j ∨ S i j) s next := by
 refine ⟨fun j n i ha => ?_, fun j n i m hr hc => ?_⟩
 ·
  cases ha with
  | done hd => rw [h] at hd; cases hd
  | step hs hk =>
   cases hs with
   | takes h' hr hs => rw [h] at h'; cases h'
   | left h' =>
    rw [h] at h'; cases h'
    obtain ⟨m, n', h1, h2, h3⟩ := hx.snd _ _ _ hk
    exact ⟨m, n', Nat.le_succ_of_le h1, .inl h2, h3⟩
   | right h' =>
    rw [h] at h'; cases h'
    obtain ⟨m, n', h1, h2, h3⟩ := hy.snd _ _ _ hk
    exact ⟨m, n', Nat.le_succ_of_le h1, .inr h2, h3⟩
   | begins h' => rw [h] at h'; cases h'
   | ends h' => rw [h] at h'; cases h'
 ·
  rcases hr with hr | hr
  · obtain ⟨n', h1⟩ := hx.cpl j n i m hr hc; exact ⟨_, .step (.left h) h1⟩
  · obtain ⟨n', h1⟩ := hy.cpl j n i m hr hc; exact ⟨_, .step (.right h) h1⟩
theorem Times.split {R : Nat → Nat → Prop} : ∀ {a b i j : Nat}, Times R (a + b) i j → ∃ m, Times R a i m ∧ Times R b m j := by
 intro a
 induction a with
 | zero => intro b i j h; rw [Nat.zero_add] at h; exact ⟨i, rfl, h⟩
 | succ a ih =>
  intro b i j h
  rw [Nat.succ_add] at h
  obtain ⟨p, h1, h2⟩ := h
  obtain ⟨m, h3, h4⟩ := ih h2
  exact ⟨m, ⟨p, h1, h3⟩, h4⟩
section
variable (K : Kinds)
mutual
def build : Nd → List Sta → Nat → List Sta × Nat
 | .mk kind set no kids mn mx, L, next =>
  if kind = K.set then (L ++ [.takes set no next], L.length)
  else if kind = K.beg then (L ++ [.begins next], L.length)
  else if kind = K.fin then (L ++ [.ends next], L.length)
  else if kind = K.cat then buildCat kids L next
  else if kind = K.alt then buildAlt kids L next
  else if kind = K.rep then buildRep kids mn mx L next
  else (L, next)
def buildCat : List Nd → List Sta → Nat → List Sta × Nat
 | [], L, next => (L, next)
 | n :: ns, L, next => build n (buildCat ns L next).1 (buildCat ns L next).2
/-- The first kid; each further one is one more way. -/
def buildAlt : List Nd → List Sta → Nat → List Sta × Nat
 | [], L, next => (L, next)
 | n :: ns, L, next => buildOr ns next (build n L next)
def buildOr : List Nd → Nat → List Sta × Nat → List Sta × Nat
 | [], _, r => r
 | n :: ns, next, r => buildOr ns next ((build n r.1 next).1 ++ [.splits r.2 (build n r.1 next).2], (build n r.1 next).1.length)
def buildRep : List Nd → Int → Int → List Sta → Nat → List Sta × Nat
 | [], _, _, L, next => (L, next)
 | n :: _, mn, mx, L, next =>
  let r := if mx < 0 then
    let q := build n (L ++ [.splits 0 next]) L.length
    (q.1.set L.length (.splits q.2 next), L.length)
   else (L, next)
  let out := r.2
  let r := (List.range (mx - mn).toNat).foldl (fun r _ => ((build n r.1 r.2).1 ++ [.splits (build n r.1 r.2).2 out], (build n r.1 r.2).1.length)) r
  (List.range mn.toNat).foldl (fun r _ => build n r.1 r.2) r
end
end
def Built (l : List Int) (L : List Sta) (r : List Sta × Nat) (next : Nat) (R : Nat → Nat → Prop) : Prop :=
 (∃ E, r.1 = L ++ E) ∧ ∀ F : List Sta, (∀ k, L.length ≤ k → k < r.1.length → F[k]? = r.1[k]?) → Frag F l R r.2 next
theorem Built.id {l : List Int} {L : List Sta} {next : Nat} : Built l L (L, next) next (fun i j => i = j) := ⟨⟨[], by simp⟩, fun F _ => Frag.id⟩
theorem Built.congr {l : List Int} {L : List Sta} {r : List Sta × Nat} {next : Nat} {R S : Nat → Nat → Prop} (h : Built l L r next R) (e : ∀ i j, R i j ↔ S i j) : Built l L r next S := ⟨h.1, fun F hF => (h.2 F hF).congr e⟩
theorem Built.one {l : List Int} {L : List Sta} {s : Sta} {next : Nat} {R : Nat → Nat → Prop} (h : ∀ F : List Sta, F[L.length]? = some s → Frag F l R L.length next) : Built l L (L ++ [s], L.length) next R := by
 refine ⟨⟨[s], rfl⟩, fun F hF => h F ?_⟩
 rw [hF L.length (Nat.le_refl _) (by simp)]; simp
section
variable (K : Kinds)
end
section
variable (K : Kinds) (l : List Int)
end
end Go.Nfa
namespace Go.Nfa
def Eps (L : List Sta) (len at_ : Nat) (s t : Nat) : Prop :=
 (∃ x y, L[s]? = some (.splits x y) ∧ (t = x ∨ t = y)) ∨ (∃ x, L[s]? = some (.begins x) ∧ at_ = 0 ∧ t = x) ∨ (∃ x, L[s]? = some (.ends x) ∧ at_ = len ∧ t = x)
inductive Rch (L : List Sta) (len at_ : Nat) (X : Nat → Prop) : Nat → Prop
 | base {s} (h : X s) : Rch L len at_ X s
 | step {s t} (h : Rch L len at_ X s) (e : Eps L len at_ s t) : Rch L len at_ X t
theorem eps_step {L : List Sta} {l : List Int} {s t i : Nat} (h : Eps L l.length i s t) : Step L l (s, i) (t, i) := by
 rcases h with ⟨x, y, h, rfl | rfl⟩ | ⟨x, h, rfl, rfl⟩ | ⟨x, h, rfl, rfl⟩
 · exact .left h
 · exact .right h
 · exact .begins h
 · exact .ends h
theorem step_cases {L : List Sta} {l : List Int} {s t i j : Nat} (h : Step L l (s, i) (t, j)) : (j = i ∧ Eps L l.length i s t) ∨ (j = i + 1 ∧ ∃ r set no, L[s]? = some (.takes set no t) ∧ l[i]? = some r ∧ inSet set no r = true) := by
 cases h with
 | takes h hr hs => exact .inr ⟨rfl, _, _, _, h, hr, hs⟩
 | left h => exact .inl ⟨rfl, .inl ⟨_, _, h, .inl rfl⟩⟩
 | right h => exact .inl ⟨rfl, .inl ⟨_, _, h, .inr rfl⟩⟩
 | begins h => exact .inl ⟨rfl, .inr (.inl ⟨_, h, rfl, rfl⟩)⟩
 | ends h => exact .inl ⟨rfl, .inr (.inr ⟨_, h, rfl, rfl⟩)⟩
inductive RC (L : List Sta) (l : List Int) (s₀ i₀ : Nat) : Nat → Nat → Prop
 | base : RC L l s₀ i₀ s₀ i₀
 | step {s i t j} (h : RC L l s₀ i₀ s i) (k : Step L l (s, i) (t, j)) : RC L l s₀ i₀ t j
theorem RC.le {L : List Sta} {l : List Int} {s₀ i₀ s i : Nat} (h : RC L l s₀ i₀ s i) : i₀ ≤ i := by
 induction h with
 | base => exact Nat.le_refl _
 | step h k ih => rcases step_cases k with ⟨rfl, _⟩ | ⟨rfl, _⟩ <;> omega
theorem RC.len {L : List Sta} {l : List Int} {s₀ i₀ s i : Nat} (h0 : i₀ ≤ l.length) (h : RC L l s₀ i₀ s i) : i ≤ l.length := by
 induction h with
 | base => exact h0
 | step h k ih =>
  rcases step_cases k with ⟨rfl, _⟩ | ⟨rfl, r, _, _, _, hr, _⟩
  · exact ih
  · exact (List.getElem?_eq_some_iff.1 hr).1
theorem rc_zero {L : List Sta} {l : List Int} {s₀ i₀ s : Nat} : RC L l s₀ i₀ s i₀ ↔ Rch L l.length i₀ (fun x => x = s₀) s := by
 constructor
 ·
  intro h
  have key : ∀ t j, RC L l s₀ i₀ t j → j = i₀ → Rch L l.length i₀ (fun x => x = s₀) t := by
   intro t j h
   induction h with
   | base => intro _; exact .base rfl
   | step h k ih =>
    intro e
    have hle := h.le
    rcases step_cases k with ⟨e1, q⟩ | ⟨e1, _⟩
    ·
     have e2 := e1.symm.trans e
     subst e2
     exact .step (ih rfl) q
    · omega
  exact key s i₀ h rfl
 ·
  intro h
  induction h with
  | base h => subst h; exact .base
  | step h e ih => exact .step ih (eps_step e)
def Taken (L : List Sta) (l : List Int) (s₀ i₀ i : Nat) (x : Nat) : Prop := ∃ s r set no, RC L l s₀ i₀ s i ∧ L[s]? = some (.takes set no x) ∧ l[i]? = some r ∧ inSet set no r = true
theorem rc_succ {L : List Sta} {l : List Int} {s₀ i₀ i s : Nat} (h0 : i₀ ≤ i) : RC L l s₀ i₀ s (i + 1) ↔ Rch L l.length (i + 1) (Taken L l s₀ i₀ i) s := by
 constructor
 ·
  intro h
  have key : ∀ t j, RC L l s₀ i₀ t j → j = i + 1 → Rch L l.length (i + 1) (Taken L l s₀ i₀ i) t := by
   intro t j h
   induction h with
   | base => intro e; omega
   | step hh k ih =>
    intro e
    rcases step_cases k with ⟨e1, q⟩ | ⟨e1, r, set, no, q1, q2, q3⟩
    ·
     have e2 := e1.symm.trans e
     subst e2
     exact .step (ih rfl) q
    ·
     have e2 : _ = i := Nat.succ.inj (e1.symm.trans e)
     subst e2
     exact .base ⟨_, r, set, no, hh, q1, q2, q3⟩
  exact key s (i + 1) h rfl
 ·
  intro h
  induction h with
  | base h =>
   obtain ⟨s, r, set, no, h1, h2, h3, h4⟩ := h
   exact .step h1 (.takes h2 h3 h4)
  | step h e ih => exact .step ih (eps_step e)
def plain (L : List Sta) (s : Nat) : Prop := (∃ set no x, L[s]? = some (.takes set no x)) ∨ L[s]? = some .done
structure Ent (L : List Sta) (len at_ : Nat) (X : Nat → Prop) (seen : List Int) (now todo : List Nat) : Prop where
 sz : seen.length = L.length
 in_ : ∀ s ∈ todo, s < L.length
 rs : ∀ s : Nat, seen[s]? = some ((at_ : Int) + 1) → Rch L len at_ X s
 rt : ∀ s ∈ todo, Rch L len at_ X s
 cl : ∀ s t : Nat, seen[s]? = some ((at_ : Int) + 1) → Eps L len at_ s t → seen[t]? = some ((at_ : Int) + 1) ∨ t ∈ todo
 nw : ∀ s, s ∈ now ↔ seen[s]? = some ((at_ : Int) + 1) ∧ plain L s
section
variable {L : List Sta} {len at_ : Nat} {X : Nat → Prop} {seen : List Int} {now todo : List Nat} {s : Nat}
theorem set_get (seen : List Int) (s t : Nat) (v : Int) (hs : s < seen.length) : (seen.set s v)[t]? = if t = s then some v else seen[t]? := by
 by_cases e : t = s
 · subst e; simp [hs]
 · rw [if_neg e, List.getElem?_set_ne (fun x => e x.symm)]
theorem Ent.enter (h : Ent L len at_ X seen now (todo ++ [s])) (hs : seen[s]? ≠ some ((at_ : Int) + 1)) (more now' : List Nat) (hm : ∀ t, t ∈ more ↔ Eps L len at_ s t) (hin : ∀ t ∈ more, t < L.length)
  (hn : ∀ t, t ∈ now' ↔ t ∈ now ∨ (t = s ∧ plain L s)) : Ent L len at_ X (seen.set s ((at_ : Int) + 1)) now' (todo ++ more) := by
 have hsl : s < seen.length := by rw [h.sz]; exact h.in_ s (by simp)
 have hr : Rch L len at_ X s := h.rt s (by simp)
 refine ⟨by simp [h.sz], ?_, ?_, ?_, ?_, ?_⟩
 ·
  intro t ht
  rcases List.mem_append.1 ht with q | q
  · exact h.in_ t (by simp [q])
  · exact hin t q
 ·
  intro t ht
  rw [set_get _ _ _ _ hsl] at ht
  split at ht
  · rename_i e; subst e; exact hr
  · exact h.rs t ht
 ·
  intro t ht
  rcases List.mem_append.1 ht with q | q
  · exact h.rt t (by simp [q])
  · exact .step hr ((hm t).1 q)
 ·
  intro a t ha e
  rw [set_get _ _ _ _ hsl] at ha ⊢
  by_cases et : t = s
  · exact .inl (by rw [if_pos et])
  ·
   rw [if_neg et]
   split at ha
   ·
    rename_i ea; subst ea
    exact .inr (List.mem_append.2 (.inr ((hm t).2 e)))
   ·
    rcases h.cl a t ha e with q | q
    · exact .inl q
    ·
     rcases List.mem_append.1 q with q | q
     · exact .inr (List.mem_append.2 (.inl q))
     · simp at q; exact absurd q et
 ·
  intro t
  rw [hn, set_get _ _ _ _ hsl, h.nw]
  by_cases et : t = s
  ·
   subst et
   rw [if_pos rfl]
   constructor
   ·
    rintro (⟨q, _⟩ | ⟨_, q⟩)
    · exact absurd q hs
    · exact ⟨rfl, q⟩
   · exact fun q => .inr ⟨rfl, q.2⟩
  ·
   rw [if_neg et]
   constructor
   ·
    rintro (q | ⟨q, _⟩)
    · exact q
    · exact absurd q et
   · exact fun q => .inl q
theorem Ent.all (h : Ent L len at_ X seen now []) (hX : ∀ s, X s → seen[s]? = some ((at_ : Int) + 1)) : ∀ s, seen[s]? = some ((at_ : Int) + 1) ↔ Rch L len at_ X s := by
 intro s
 refine ⟨h.rs s, fun q => ?_⟩
 induction q with
 | base q => exact hX _ q
 | step _ e ih =>
  rcases h.cl _ _ ih e with q | q
  · exact q
  · cases q
theorem Ent.first (h : Ent L len at_ X seen now []) (hs : s < L.length) : Ent L len at_ (fun x => X x ∨ x = s) seen now [s] := by
 have mono : ∀ t, Rch L len at_ X t → Rch L len at_ (fun x => X x ∨ x = s) t := by
  intro t q
  induction q with
  | base q => exact .base (.inl q)
  | step _ e ih => exact .step ih e
 refine ⟨h.sz, fun t ht => by simp at ht; subst ht; exact hs, fun t ht => mono t (h.rs t ht), fun t ht => by simp at ht; subst ht; exact .base (.inr rfl), fun a t ha e => ?_, h.nw⟩
 rcases h.cl a t ha e with q | q
 · exact .inl q
 · cases q
theorem Ent.fresh (hsz : seen.length = L.length) (hlo : ∀ (s : Nat) (v : Int), seen[s]? = some v → v ≤ (at_ : Int)) : Ent L len at_ (fun _ => False) seen [] [] := by
 have no : ∀ s : Nat, seen[s]? ≠ some ((at_ : Int) + 1) := fun s e => by have := hlo s _ e; omega
 exact ⟨hsz, by simp, fun s e => absurd e (no s), by simp, fun s t e => absurd e (no s), fun s => by simp [no s]⟩
end
end Go.Nfa

/-
  What is proved here: the document's way to a pattern's places (marks by place, from some places on) marks just those to which the pattern matches. Condition: the pattern may be. (No program in sight.) What is proved here: rising lists of places are told by their members; the machine's places and the document's are the same; where no state is left that takes a sign, no place comes any more. Condition: the pattern may be. (No program in sight.) What is proved here: where a machine's states lead to lies in it; one turn of the stack of states. No conditions. (No program in sight.) What is proved here: one place further; the whole search. No conditions. (No program in sight.)
-/
import Derived.Test.YtiebldaihnbkmaaGreatDoorPureNfa1
set_option linter.unusedVariables false
set_option linter.unusedSimpArgs false
namespace Go.Nfa
def mk (b : List Bool) (j : Nat) : Prop := b[j]? = some true
def rep (f : List Bool → List Bool) : Nat → List Bool → List Bool
 | 0, x => x
 | k + 1, x => rep f k (f x)
section
variable (K : Kinds) (l : List Int)
def zeros : List Bool := List.replicate (l.length + 1) false
def shift (set : List (Int × Int)) (no : Bool) (b : List Bool) : List Bool := (List.range (l.length + 1)).map fun j => match j with
 | 0 => false
 | i + 1 => (b.getD i false) && (match l[i]? with | some r => inSet set no r | none => false)
def Does (f : List Bool → List Bool) (R : Nat → Nat → Prop) : Prop := ∀ b, b.length = l.length + 1 → (f b).length = l.length + 1 ∧ ∀ j, mk (f b) j ↔ ∃ i, mk b i ∧ R i j
theorem Does.rep {f : List Bool → List Bool} {R : Nat → Nat → Prop} (h : Does l f R) : ∀ k, Does l (Nfa.rep f k) (Times R k) := by
 intro k
 induction k with
 | zero => intro b hb; exact ⟨hb, fun j => ⟨fun x => ⟨j, x, rfl⟩, fun ⟨i, x, e⟩ => by cases e; exact x⟩⟩
 | succ k ih =>
  intro b hb
  obtain ⟨h1, h2⟩ := h b hb
  obtain ⟨h3, h4⟩ := ih (f b) h1
  refine ⟨h3, fun j => ?_⟩
  show mk (Nfa.rep f k (f b)) j ↔ _
  rw [h4]
  constructor
  · rintro ⟨m, hm, ht⟩; obtain ⟨i, hi, hr⟩ := (h2 m).1 hm; exact ⟨i, hi, m, hr, ht⟩
  · rintro ⟨i, hi, m, hr, ht⟩; exact ⟨m, (h2 m).2 ⟨i, hi, hr⟩, ht⟩
end
end Go.Nfa
namespace Go.Nfa
section
variable (K : Kinds) (l : List Int)
def only (i : Nat) : List Bool := (zeros l).set i true
end
end Go.Nfa
namespace Go.Nfa
def tg : Sta → List Nat
 | .takes _ _ x => [x]
 | .splits x y => [x, y]
 | .begins x => [x]
 | .ends x => [x]
 | .done => []
def Tgt (L : List Sta) : Prop := ∀ σ ∈ L, ∀ t ∈ tg σ, t < L.length
theorem Tgt.set {L : List Sta} {σ : Sta} {i : Nat} (h : Tgt L) (hσ : ∀ t ∈ tg σ, t < L.length) : Tgt (L.set i σ) := by
 intro τ hτ t ht
 rw [List.length_set]
 rcases List.mem_or_eq_of_mem_set hτ with q | q
 · exact h τ q t ht
 · subst q; exact hσ t ht
section
variable (K : Kinds)
end
def unm (at_ : Nat) (seen : List Int) : Nat := seen.countP fun v => decide (¬ v = (at_ : Int) + 1)
theorem unm_le (at_ : Nat) (seen : List Int) : unm at_ seen ≤ seen.length := List.countP_le_length
structure EI (S : List Sta) (len at_ : Nat) (X0 : Nat → Prop) (s : Nat) (seen0 seen : List Int) (now todo : List Nat) : Prop where
 ent : Ent S len at_ (fun x => X0 x ∨ x = s) seen now todo
 goal : seen[s]? = some ((at_ : Int) + 1) ∨ s ∈ todo
 mono : ∀ t : Nat, seen0[t]? = some ((at_ : Int) + 1) → seen[t]? = some ((at_ : Int) + 1)
 le : ∀ (t : Nat) v, seen[t]? = some v → v ≤ (at_ : Int) + 1
 bd : 2 * unm at_ seen + todo.length ≤ 2 * S.length + 1
 nb : now.length + unm at_ seen ≤ S.length
variable {S : List Sta} {len at_ : Nat} {X0 : Nat → Prop} {s x : Nat} {seen0 seen : List Int} {now todo td : List Nat}
theorem EI.first (h : Ent S len at_ X0 seen now []) (hs : s < S.length) (hle : ∀ (t : Nat) v, seen[t]? = some v → v ≤ (at_ : Int) + 1) (hn : now.length + unm at_ seen ≤ S.length) : EI S len at_ X0 s seen seen now [s] :=
 ⟨h.first hs, .inr (by simp), fun _ h => h, hle, by have := unm_le at_ seen; rw [h.sz] at this; simp; omega, hn⟩
theorem EI.done (h : EI S len at_ X0 s seen0 seen now []) : Ent S len at_ (fun x => X0 x ∨ x = s) seen now [] ∧ seen[s]? = some ((at_ : Int) + 1) :=
 ⟨h.ent, by rcases h.goal with q | q; exact q; cases q⟩
end Go.Nfa
namespace Go.Nfa
def Tk (S : List Sta) (l : List Int) (p : Nat) (s x : Nat) : Prop := ∃ set no, S[s]? = some (.takes set no x) ∧ inSet set no (l.getD p 0) = true
structure SI (S : List Sta) (l : List Int) (p : Nat) (now0 : List Nat) (i : Nat) (seen : List Int) (nw : List Nat) : Prop where
 ent : Ent S l.length (p + 1) (fun x => ∃ s ∈ now0.take i, Tk S l p s x) seen nw []
 all : ∀ x, (∃ s ∈ now0.take i, Tk S l p s x) → seen[x]? = some (((p + 1 : Nat) : Int) + 1)
 le : ∀ (t : Nat) v, seen[t]? = some v → v ≤ ((p + 1 : Nat) : Int) + 1
 nb : nw.length + unm (p + 1) seen ≤ S.length
variable {S : List Sta} {l : List Int} {p i : Nat} {now0 nw : List Nat} {seen : List Int}
theorem SI.first (hsz : seen.length = S.length) (hle : ∀ (t : Nat) v, seen[t]? = some v → v ≤ (p : Int) + 1) : SI S l p now0 0 seen [] := by
 have e : (fun x => ∃ s ∈ now0.take 0, Tk S l p s x) = fun _ => False := by funext x; simp
 refine ⟨?_, fun x h => ?_, fun t v h => ?_, ?_⟩
 · rw [e]; exact Ent.fresh hsz fun s v h => by have := hle s v h; omega
 · simp at h
 · have := hle t v h; omega
 · have := unm_le (p + 1) seen; rw [hsz] at this; simpa using this
theorem SI.enter (h : SI S l p now0 i seen nw) {x y : Nat} {set : List (Int × Int)} {no : Bool} (hi : now0[i]? = some x) (hx : S[x]? = some (.takes set no y)) (hin : inSet set no (l.getD p 0) = true) {seen2 : List Int} {nw2 : List Nat}
  (he : Ent S l.length (p + 1) (fun z => (∃ s ∈ now0.take i, Tk S l p s z) ∨ z = y) seen2 nw2 []) (hy : seen2[y]? = some (((p + 1 : Nat) : Int) + 1)) (hm : ∀ t : Nat, seen[t]? = some (((p + 1 : Nat) : Int) + 1) → seen2[t]? = some (((p + 1 : Nat) : Int) + 1))
  (hle : ∀ (t : Nat) v, seen2[t]? = some v → v ≤ ((p + 1 : Nat) : Int) + 1) (hnb : nw2.length + unm (p + 1) seen2 ≤ S.length) : SI S l p now0 (i + 1) seen2 nw2 := by
 have e : (fun z => ∃ s ∈ now0.take (i + 1), Tk S l p s z) = fun z => (∃ s ∈ now0.take i, Tk S l p s z) ∨ z = y := by
  funext z
  apply propext
  rw [List.take_add_one, hi]
  constructor
  ·
   rintro ⟨s, hs, t⟩
   rcases List.mem_append.1 hs with q | q
   · exact .inl ⟨s, q, t⟩
   ·
    simp at q; subst q
    obtain ⟨set', no', t1, _⟩ := t
    rw [hx] at t1; cases t1; exact .inr rfl
  ·
   rintro (⟨s, hs, t⟩ | rfl)
   · exact ⟨s, List.mem_append.2 (.inl hs), t⟩
   · exact ⟨x, List.mem_append.2 (.inr (by simp)), set, no, hx, hin⟩
 refine ⟨by rw [e]; exact he, fun z hz => ?_, hle, hnb⟩
 have := congrFun e z
 rw [this] at hz
 rcases hz with hz | rfl
 · exact hm z (h.all z hz)
 · exact hy
def doneB (S : List Sta) (s : Nat) : Bool := match S[s]? with
 | some .done => true
 | _ => false
theorem doneB_iff {S : List Sta} {s : Nat} : doneB S s = true ↔ S[s]? = some .done := by
 unfold doneB
 split
 · rename_i h; simp [h]
 · rename_i h; simp; exact h
structure LI (S : List Sta) (l : List Int) (s₀ i₀ p : Nat) (seen : List Int) (nw out : List Nat) : Prop where
 ent : ∃ X, Ent S l.length p X seen nw []
 rc : ∀ t : Nat, seen[t]? = some ((p : Int) + 1) ↔ RC S l s₀ i₀ t p
 le : ∀ (t : Nat) v, seen[t]? = some v → v ≤ (p : Int) + 1
 nb : nw.length + unm p seen ≤ S.length
 lo : i₀ ≤ p
 hi : p ≤ l.length
 srt : out.Pairwise (· < ·)
 mem : ∀ j, j ∈ out ↔ i₀ ≤ j ∧ j < p ∧ ∃ t, RC S l s₀ i₀ t j ∧ S[t]? = some .done
variable {s₀ i₀ : Nat} {out : List Nat}
theorem LI.first {X0 : Nat → Prop} (hX : ∀ x, ¬ X0 x) (he : Ent S l.length i₀ (fun x => X0 x ∨ x = s₀) seen nw []) (hs : seen[s₀]? = some ((i₀ : Int) + 1)) (hle : ∀ (t : Nat) v, seen[t]? = some v → v ≤ (i₀ : Int) + 1) (hnb : nw.length + unm i₀ seen ≤ S.length) (h0 : i₀ ≤ l.length) : LI S l s₀ i₀ i₀ seen nw [] := by
 have e : (fun x => X0 x ∨ x = s₀) = fun x => x = s₀ := by funext x; simp [hX x]
 rw [e] at he
 refine ⟨⟨_, he⟩, fun t => ?_, hle, hnb, Nat.le_refl _, h0, .nil, fun j => ?_⟩
 · rw [he.all (fun s q => by subst q; exact hs) t, rc_zero]
 · simp; omega
theorem LI.now_mem (h : LI S l s₀ i₀ p seen nw out) (s : Nat) : s ∈ nw ↔ RC S l s₀ i₀ s p ∧ plain S s := by
 obtain ⟨X, he⟩ := h.ent
 rw [he.nw, h.rc]
theorem LI.ended (h : LI S l s₀ i₀ p seen nw out) : nw.any (doneB S) = true ↔ ∃ t, RC S l s₀ i₀ t p ∧ S[t]? = some .done := by
 rw [List.any_eq_true]
 constructor
 · rintro ⟨t, ht, hd⟩; exact ⟨t, ((h.now_mem t).1 ht).1, doneB_iff.1 hd⟩
 · rintro ⟨t, ht, hd⟩; exact ⟨t, (h.now_mem t).2 ⟨ht, .inr hd⟩, doneB_iff.2 hd⟩
def outOf (S : List Sta) (p : Nat) (nw out : List Nat) : List Nat := if nw.any (doneB S) = true then out ++ [p] else out
theorem LI.out_mem (h : LI S l s₀ i₀ p seen nw out) (j : Nat) : j ∈ outOf S p nw out ↔ i₀ ≤ j ∧ j < p + 1 ∧ ∃ t, RC S l s₀ i₀ t j ∧ S[t]? = some .done := by
 unfold outOf
 have hlo := h.lo
 split
 ·
  rename_i he
  rw [List.mem_append, h.mem, List.mem_singleton]
  constructor
  ·
   rintro (⟨a, b, c⟩ | rfl)
   · exact ⟨a, by omega, c⟩
   · exact ⟨hlo, by omega, h.ended.1 he⟩
  ·
   rintro ⟨a, b, c⟩
   by_cases e : j = p
   · exact .inr e
   · exact .inl ⟨a, by omega, c⟩
 ·
  rename_i he
  rw [h.mem]
  constructor
  · rintro ⟨a, b, c⟩; exact ⟨a, by omega, c⟩
  ·
   rintro ⟨a, b, c⟩
   by_cases e : j = p
   · subst e; exact absurd (h.ended.2 c) he
   · exact ⟨a, by omega, c⟩
theorem LI.out_srt (h : LI S l s₀ i₀ p seen nw out) : (outOf S p nw out).Pairwise (· < ·) := by
 unfold outOf
 split
 ·
  rw [List.pairwise_append]
  refine ⟨h.srt, by simp, fun a ha b hb => ?_⟩
  simp at hb; subst hb
  exact ((h.mem a).1 ha).2.1
 · exact h.srt
theorem LI.step (h : LI S l s₀ i₀ p seen nw out) (hp : p < l.length) {seen2 : List Int} {nw2 : List Nat} (hs : SI S l p nw nw.length seen2 nw2) : LI S l s₀ i₀ (p + 1) seen2 nw2 (outOf S p nw out) := by
 have hlo := h.lo
 have eT : (fun x => ∃ s ∈ nw.take nw.length, Tk S l p s x) = Taken S l s₀ i₀ p := by
  funext x
  apply propext
  rw [List.take_length]
  have hg : l[p]? = some (l.getD p 0) := by rw [List.getElem?_eq_getElem hp, List.getD_eq_getElem?_getD, List.getElem?_eq_getElem hp]; rfl
  constructor
  ·
   rintro ⟨s, hm, set, no, q1, q2⟩
   exact ⟨s, _, set, no, ((h.now_mem s).1 hm).1, q1, hg, q2⟩
  ·
   rintro ⟨s, r, set, no, q1, q2, q3, q4⟩
   rw [hg] at q3; cases q3
   exact ⟨s, (h.now_mem s).2 ⟨q1, .inl ⟨_, _, _, q2⟩⟩, set, no, q2, q4⟩
 have he := hs.ent
 have hall := hs.all
 refine ⟨⟨_, he⟩, fun t => ?_, hs.le, hs.nb, by omega, hp, h.out_srt, h.out_mem⟩
 rw [he.all hall t, eT, rc_succ hlo]
end Go.Nfa

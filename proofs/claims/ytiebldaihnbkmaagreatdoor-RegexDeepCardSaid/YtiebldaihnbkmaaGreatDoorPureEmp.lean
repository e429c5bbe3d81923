/-
  What is proved here: stars of stars of one sign match just the rows of that sign. No conditions. (No program in sight.) What is proved here: so many times a sign, at a row of that sign: which places are reached. No conditions. (No program in sight.) What is proved here: the texts of repeats, and what they are read as (part ENa). No conditions. What is proved here: repeats in repeats: their texts, what they are read as, what they weigh (part EWa). No conditions. What is proved here: what the reader of patterns reads whole it reads just so in front of a closing parenthesis, however deep it may go. No conditions. (No program in sight.) What is proved here: what the reader of patterns reads whole it reads just so in parentheses. No conditions. (No program in sight.) What is proved here: a text in parentheses is read as the text is (part EDa). No conditions.
-/
import Derived.Test.YtiebldaihnbkmaaGreatDoorNQ
import Derived.Test.YtiebldaihnbkmaaGreatDoorUG
import Derived.Test.YtiebldaihnbkmaaGreatDoorRM
import Derived.Lib.ValidAsc
import Derived.Test.YtiebldaihnbkmaaGreatDoorPurePar1
import Derived.Test.YtiebldaihnbkmaaGreatDoorPA
import Derived.Lib.ValidLaws
set_option linter.unusedVariables false
set_option linter.unusedSimpArgs false
namespace Go.Vai
open Go.Nfa
def Run (l : List Int) (i j : Nat) : Prop := i ≤ j ∧ ∀ x, i ≤ x → x < j → l[x]? = some 97
theorem Run.refl (l : List Int) (i : Nat) : Run l i i := ⟨Nat.le_refl _, fun x h1 h2 => by omega⟩
theorem Run.trans {l : List Int} {i m j : Nat} (h : Run l i m) (k : Run l m j) : Run l i j := ⟨Nat.le_trans h.1 k.1, fun x h1 h2 => by
 by_cases hx : x < m
 · exact h.2 x h1 hx
 · exact k.2 x (by omega) h2⟩
end Go.Vai
namespace Go.Vai
open Go.Nfa
end Go.Vai
set_option maxRecDepth 100000
set_option maxHeartbeats 4000000
namespace Go.Vai
open Go.Nfa
noncomputable section
end
end Go.Vai
set_option maxRecDepth 100000
namespace Go.Vai
open Go.Nfa Go.Utf
noncomputable section
theorem bytes_eq (s : ByteArray) : bytesOf s = s.data.toList.map (·.toNat) := by
 refine List.ext_getElem? fun i => ?_
 unfold bytesOf
 rw [List.getElem?_map, List.getElem?_map]
 by_cases h : i < s.size
 ·
  have h2 : i < s.data.toList.length := by rw [Array.length_toList]; exact h
  rw [List.getElem?_range h, List.getElem?_eq_getElem h2]
  simp only [Option.map_some, sB, h, dite_true]
  rfl
 ·
  have h2 : ¬ i < s.data.toList.length := by rw [Array.length_toList]; exact h
  rw [List.getElem?_eq_none (by simpa using h), List.getElem?_eq_none (by omega)]; rfl
theorem bytes_app (a b : ByteArray) : bytesOf (a ++ b) = bytesOf a ++ bytesOf b := by
 rw [bytes_eq, bytes_eq, bytes_eq, ByteArray.data_append, Array.toList_append, List.map_append]
theorem bytes_lit (xs : Array UInt8) : bytesOf ⟨xs⟩ = xs.toList.map (·.toNat) := bytes_eq _
end
end Go.Vai
set_option linter.unusedVariables false
set_option linter.unusedSimpArgs false
namespace Go.Vai
open Go.Nfa
def Cl (t : List Int) : Prop := ∃ t', t = 41 :: t'
theorem Cl.nx {t : List Int} (h : Cl t) : nx t = 41 := by obtain ⟨t', rfl⟩ := h; rfl
theorem nx_app {s t : List Int} (h : s ≠ []) : nx (s ++ t) = nx s := by
 cases s with
 | nil => exact absurd rfl h
 | cons r s => rfl
theorem tail_app {s t : List Int} (h : s ≠ []) : (s ++ t).tail = s.tail ++ t := by
 cases s with
 | nil => exact absurd rfl h
 | cons r s => rfl
theorem ne_of_nx {s : List Int} (h : 0 ≤ nx s) : s ≠ [] := by rintro rfl; simp [Nfa.nx] at h
section
variable {t : List Int} (ht : Cl t)
include ht
theorem is_ne {s : List Int} {c : Int} (hc : c ≠ 41) (h0 : 0 ≤ c) (h : ¬ nx s = c) : ¬ nx (s ++ t) = c := by
 cases s with
 | nil => rw [List.nil_append, ht.nx]; omega
 | cons r s => exact h
omit ht in
theorem tk_ext {s s' : List Int} {r : Int} (h : tkM s false = (r, s', false)) : tkM (s ++ t) false = (r, s' ++ t, false) ∧ 0 ≤ nx s := by
 have g := tk_good (s := s) (b := false) (by rw [h])
 rw [g.2.2.1] at h
 simp only [Prod.mk.injEq] at h
 obtain ⟨rfl, rfl, _⟩ := h
 have hn := ne_of_nx g.1
 refine ⟨?_, g.1⟩
 unfold tkM
 rw [nx_app hn, if_neg (by omega), tail_app hn]
omit ht in
theorem must_ext {c : Int} {s s' : List Int} (h0 : 0 ≤ c) (h : mustM c s false = (s', false)) : mustM c (s ++ t) false = (s' ++ t, false) := by
 have g := must_good (r := c) (s := s) (b := false) (by rw [h])
 have hn := ne_of_nx (s := s) (by omega)
 unfold mustM isR at h ⊢
 simp only [Bool.false_eq_true, if_false, g.2, if_true, decide_true, Bool.not_true, Prod.mk.injEq, and_true] at h
 simp only [Bool.false_eq_true, if_false, nx_app hn, g.2, if_true, decide_true, Bool.not_true, tail_app hn, h]
omit ht in
theorem dig_ext {s s' : List Int} {d : Int} (h : digM s false = (d, s', false)) : digM (s ++ t) false = (d, s' ++ t, false) := by
 unfold digM at h
 split at h
 · simp at h
 ·
  rename_i hn
  obtain ⟨r, s1, b1, e⟩ : ∃ r s1 b1, tkM s false = (r, s1, b1) := ⟨_, _, _, rfl⟩
  rw [e] at h hn
  simp only [Prod.mk.injEq] at h
  obtain ⟨rfl, rfl, rfl⟩ := h
  unfold digM
  rw [(tk_ext e).1, if_neg hn]
theorem most_ext {d x : Int} {s s' : List Int} (h : mostM d s false = (x, s', false)) : mostM d (s ++ t) false = (x, s' ++ t, false) := by
 unfold mostM at h
 split at h
 ·
  rename_i h1
  have hn := ne_of_nx (s := s) (by omega)
  unfold mostM
  rw [nx_app hn, if_pos h1, tail_app hn]
  split at h
  ·
   rename_i h2
   have hn2 := ne_of_nx (s := s.tail) (by omega)
   simp only [Prod.mk.injEq] at h
   obtain ⟨rfl, rfl, _⟩ := h
   rw [nx_app hn2, if_pos h2]
  ·
   rename_i h2
   obtain ⟨r, s1, b1, e⟩ : ∃ r s1 b1, digM s.tail false = (r, s1, b1) := ⟨_, _, _, rfl⟩
   rw [e] at h
   simp only [Prod.mk.injEq, Bool.or_eq_false_iff] at h
   obtain ⟨rfl, rfl, rfl, h3⟩ := h
   rw [if_neg (is_ne ht (by decide) (by decide) h2), dig_ext e]
   simp only [h3, Bool.or_false]
 ·
  rename_i h1
  simp only [Prod.mk.injEq] at h
  obtain ⟨rfl, rfl, _⟩ := h
  unfold mostM
  rw [if_neg (is_ne ht (by decide) (by decide) h1)]
theorem rep_ext {s s' : List Int} {q : Int × Int × Bool} (h : repM s false = (q, s', false)) : repM (s ++ t) false = (q, s' ++ t, false) := by
 unfold repM at h
 split at h
 ·
  rename_i h1
  have hn := ne_of_nx (s := s) (by omega)
  simp only [Prod.mk.injEq] at h
  obtain ⟨rfl, rfl, _⟩ := h
  unfold repM; rw [nx_app hn, if_pos h1, tail_app hn]
 ·
  rename_i h1
  split at h
  ·
   rename_i h2
   have hn := ne_of_nx (s := s) (by omega)
   simp only [Prod.mk.injEq] at h
   obtain ⟨rfl, rfl, _⟩ := h
   unfold repM; rw [nx_app hn, if_neg h1, if_pos h2, tail_app hn]
  ·
   rename_i h2
   split at h
   ·
    rename_i h3
    have hn := ne_of_nx (s := s) (by omega)
    simp only [Prod.mk.injEq] at h
    obtain ⟨rfl, rfl, _⟩ := h
    unfold repM; rw [nx_app hn, if_neg h1, if_neg h2, if_pos h3, tail_app hn]
   ·
    rename_i h3
    split at h
    ·
     rename_i h4
     have hn := ne_of_nx (s := s) (by omega)
     obtain ⟨d, s1, b1, e1⟩ : ∃ r s1 b1, digM s.tail false = (r, s1, b1) := ⟨_, _, _, rfl⟩
     rw [e1] at h
     dsimp only at h
     obtain ⟨x, s2, b2, e2⟩ : ∃ r s1' b1', mostM d s1 b1 = (r, s1', b1') := ⟨_, _, _, rfl⟩
     rw [e2] at h
     dsimp only at h
     obtain ⟨s3, b3, e3⟩ : ∃ s1' b1', mustM 125 s2 b2 = (s1', b1') := ⟨_, _, rfl⟩
     rw [e3] at h
     simp only [Prod.mk.injEq] at h
     obtain ⟨rfl, rfl, rfl⟩ := h
     have g3 := must_good (r := 125) (s := s2) (b := b2) (by rw [e3])
     have hb2 := g3.1
     subst hb2
     have hb1 : b1 = false := by
      have e2' := e2
      unfold mostM at e2'
      split at e2'
      ·
       split at e2'
       · simp only [Prod.mk.injEq] at e2'; exact e2'.2.2
       ·
        simp only [Prod.mk.injEq, Bool.or_eq_false_iff] at e2'
        exact (dig_good (s := s1.tail) (b := b1) e2'.2.2.1).1
      · simp only [Prod.mk.injEq] at e2'; exact e2'.2.2
     subst hb1
     unfold repM
     rw [nx_app hn, if_neg h1, if_neg h2, if_neg h3, if_pos h4, tail_app hn, dig_ext e1]
     dsimp only
     rw [most_ext ht e2]
     dsimp only
     rw [must_ext (by decide) e3]
    ·
     rename_i h4
     simp only [Prod.mk.injEq] at h
     obtain ⟨rfl, rfl, _⟩ := h
     unfold repM
     rw [if_neg (is_ne ht (by decide) (by decide) h1), if_neg (is_ne ht (by decide) (by decide) h2), if_neg (is_ne ht (by decide) (by decide) h3), if_neg (is_ne ht (by decide) (by decide) h4)]
omit ht in
theorem mem_ext {s s' : List Int} {r : Int} (h : memM s false = (r, s', false)) : memM (s ++ t) false = (r, s' ++ t, false) := by
 have hb := mem_bad (s := s) (b := false) (by rw [h])
 obtain ⟨x, s1, b1, e⟩ : ∃ r s1 b1, tkM s false = (r, s1, b1) := ⟨_, _, _, rfl⟩
 rw [e] at hb
 have hb : b1 = false := hb
 subst hb
 unfold memM at h ⊢
 rw [e] at h
 rw [(tk_ext e).1]
 dsimp only at h ⊢
 split at h
 · rename_i h1; rw [if_pos h1]; exact (tk_ext h).1
 · rename_i h1; rw [if_neg h1]; simp only [Prod.mk.injEq] at h ⊢; obtain ⟨rfl, rfl, _⟩ := h; exact ⟨rfl, rfl, trivial⟩
omit ht in
theorem setL_93 {f : Nat} {l l' : List (Int × Int)} {s s' : List Int} {b : Bool} (h : setL f l s b = (l', s', false)) (h2 : nx s' = 93) : (93 : Int) ∈ s := by
 have hs := setL_le f l s b
 rw [h] at hs
 have hn := ne_of_nx (s := s') (by omega)
 cases s' with
 | nil => exact absurd rfl hn
 | cons r s' => exact hs.subset (by rw [show r = 93 from h2]; simp)
omit ht in
theorem hi_ext {m : Rd Int} (hb : m.2.2 = false) (h93 : (93 : Int) ∈ (hiM m).2.1) (hok : (hiM m).2.2 = false) : hiM (m.1, m.2.1 ++ t, false) = ((hiM m).1, (hiM m).2.1 ++ t, false) := by
 obtain ⟨r, s, b⟩ := m
 have hb : b = false := hb
 subst hb
 by_cases hc : 2 ≤ s.length ∧ s.getD 0 0 = 45 ∧ ¬ s.getD 1 0 = 93
 ·
  have hc2 : 2 ≤ (s ++ t).length ∧ (s ++ t).getD 0 0 = 45 ∧ ¬ (s ++ t).getD 1 0 = 93 := by
   match s, hc with
   | x :: y :: s, hc => exact ⟨by simp, hc.2.1, hc.2.2⟩
  have e1 : hiM (r, s, false) = memM (tkM s false).2.1 (tkM s false).2.2 := if_pos hc
  have e2 : hiM (r, s ++ t, false) = memM (tkM (s ++ t) false).2.1 (tkM (s ++ t) false).2.2 := if_pos hc2
  rw [e1] at hok h93 ⊢
  show hiM (r, s ++ t, false) = _
  rw [e2]
  obtain ⟨x, s1, b1, e⟩ : ∃ r s1 b1, tkM s false = (r, s1, b1) := ⟨_, _, _, rfl⟩
  rw [e] at hok h93 ⊢
  have hb1 := (tk_bad (mem_bad hok)).2
  have hb1 : b1 = false := hb1
  subst hb1
  rw [(tk_ext e).1]
  obtain ⟨y, s2, b2, e3⟩ : ∃ r s1' b1', memM s1 false = (r, s1', b1') := ⟨_, _, _, rfl⟩
  dsimp only at hok h93 ⊢
  rw [e3] at hok ⊢
  have hok : b2 = false := hok
  subst hok
  rw [mem_ext e3]
 ·
  have e1 : hiM (r, s, false) = (r, s, false) := if_neg hc
  rw [e1] at h93 ⊢
  have hc2 : ¬ (2 ≤ (s ++ t).length ∧ (s ++ t).getD 0 0 = 45 ∧ ¬ (s ++ t).getD 1 0 = 93) := by
   rintro ⟨h1, h2, h3⟩
   match s, hc, h93 with
   | [], hc, h93 => cases h93
   | [x], hc, h93 =>
    have : x = 45 := h2
    subst this
    simp at h93
   | x :: y :: s, hc, h93 => exact hc ⟨by simp, h2, h3⟩
  exact if_neg hc2
omit ht in
theorem setL_ext : ∀ (f : Nat) {f' : Nat} {l l' : List (Int × Int)} {s s' : List Int}, f ≤ f' → setL f l s false = (l', s', false) → nx s' = 93 → setL f' l (s ++ t) false = (l', s' ++ t, false) := by
 intro f
 induction f with
 | zero =>
  intro f' l l' s s' _ h h2
  simp only [setL, Prod.mk.injEq] at h
  obtain ⟨rfl, rfl, _⟩ := h
  exact setL_stop (by rintro ⟨_, h⟩; exact h (by rw [nx_app (ne_of_nx (by omega))]; exact h2))
 | succ f ih =>
  intro f' l l' s s' hf h h2
  have h93 := setL_93 h h2
  have hn : s ≠ [] := by rintro rfl; cases h93
  obtain ⟨g, rfl⟩ : ∃ g, f' = g + 1 := ⟨f' - 1, by omega⟩
  by_cases hc : ¬ nx s = 93
  ·
   rw [setL, if_pos ⟨rfl, hc⟩] at h
   rw [setL, if_pos ⟨rfl, by rw [nx_app hn]; exact hc⟩]
   have hbad := setL_bad (by rw [h])
   have h93' := setL_93 h h2
   obtain ⟨hi, hlo⟩ := Bool.or_eq_false_iff.1 hbad
   have hm := hi_bad hi
   obtain ⟨r, s1, b1, e⟩ : ∃ r s1 b1, memM s false = (r, s1, b1) := ⟨_, _, _, rfl⟩
   rw [e] at hm hi hlo h h93' hbad
   have hm : b1 = false := hm
   subst hm
   rw [mem_ext e]
   have hx := hi_ext (t := t) (m := (r, s1, false)) rfl h93' hi
   dsimp only at hx hlo hi h ⊢
   rw [hx]
   dsimp only
   rw [hlo, Bool.or_false]
   rw [hbad] at h
   exact ih (by omega) h h2
  ·
   have hc : nx s = 93 := Decidable.of_not_not hc
   rw [setL_stop (by rintro ⟨_, k⟩; exact k hc)] at h
   simp only [Prod.mk.injEq] at h
   obtain ⟨rfl, rfl, _⟩ := h
   exact setL_stop (by rintro ⟨_, k⟩; exact k (by rw [nx_app hn]; exact hc))
theorem set_ext {s s' : List Int} {N : Nd} (h : setM s false = (N, s', false)) : setM (s ++ t) false = (N, s' ++ t, false) := by
 unfold setM at h ⊢
 dsimp only at h ⊢
 have hd : decide (nx (s ++ t) = 94) = decide (nx s = 94) ∧ Nfa.isR 94 (s ++ t) = Nfa.isR 94 s ++ t := by
  unfold Nfa.isR
  by_cases h1 : nx s = 94
  ·
   have hn := ne_of_nx (s := s) (by omega)
   rw [nx_app hn, if_pos h1, if_pos h1, tail_app hn]; exact ⟨rfl, rfl⟩
  ·
   have h2 := is_ne ht (c := 94) (by decide) (by decide) h1
   rw [if_neg h1, if_neg h2, decide_eq_false h1, decide_eq_false h2]; exact ⟨rfl, rfl⟩
 rw [hd.1, hd.2]
 obtain ⟨l, s1, b1, e⟩ : ∃ r s1 b1, setL ((Nfa.isR 94 s).length + 1) [] (Nfa.isR 94 s) false = (r, s1, b1) := ⟨_, _, _, rfl⟩
 rw [e] at h
 dsimp only at h
 simp only [Prod.mk.injEq, Bool.or_eq_false_iff] at h
 obtain ⟨h1, h2, h3, h4⟩ := h
 have g := must_good h3
 have hb := g.1
 subst hb
 have hx := setL_ext (t := t) _ (f' := (Nfa.isR 94 s ++ t).length + 1) (by rw [List.length_append]; omega) e g.2
 rw [hx]
 dsimp only
 obtain ⟨s2, b2, e2⟩ : ∃ s1' b1', mustM 93 s1 false = (s1', b1') := ⟨_, _, rfl⟩
 rw [e2] at h2 h3
 have h3 : b2 = false := h3
 subst h3
 have h2 : s2 = s' := h2
 subst h2
 rw [must_ext (by decide) e2, ← h1, h4]
 rfl
end
theorem setM_bad {s : List Int} {b : Bool} (h : (setM s b).2.2 = false) : b = false := by
 unfold setM at h
 dsimp only at h
 simp only [Bool.or_eq_false_iff] at h
 exact setL_bad (must_good h.1).1
def Xt (X X' : Rdr) : Prop := ∀ s s' N t, Cl t → X s false = (N, s', false) → X' (s ++ t) false = (N, s' ++ t, false)
theorem atom_ext {alt alt' : Rdr} (hb : ∀ s N s', alt s true = (N, s', false) → False) (h : Xt alt alt') : Xt (atomM alt) (atomM alt') := by
 intro s s' N t ht e
 unfold atomM at e ⊢
 obtain ⟨r, s1, b1, e1⟩ : ∃ r s1 b1, tkM s false = (r, s1, b1) := ⟨_, _, _, rfl⟩
 rw [e1] at e
 dsimp only at e
 have hb1 : b1 = false := by
  cases b1 with
  | false => rfl
  | true =>
   exfalso
   split at e
   ·
    obtain ⟨n, s2, b2, e2⟩ : ∃ n s2 b2, alt s1 true = (n, s2, b2) := ⟨_, _, _, rfl⟩
    rw [e2] at e
    simp only [Prod.mk.injEq] at e
    have g := must_good (by rw [show mustM 41 s2 b2 = ((mustM 41 s2 b2).1, (mustM 41 s2 b2).2) from rfl] at e; exact congrArg Prod.snd e.2)
    rw [g.1] at e2
    exact hb _ _ _ e2
   ·
    repeat' split at e
    all_goals first
     | (simp only [Prod.mk.injEq] at e; exact absurd e.2.2 (by simp))
     | (simp only [Prod.mk.injEq] at e; have := (tk_bad (s := s1) (b := true) (congrArg Prod.snd e.2)).2; cases this)
     | (have := (setM_bad (s := s1) (b := true) (by rw [e])); cases this)
 subst hb1
 rw [(tk_ext e1).1]
 dsimp only
 split at e
 ·
  rename_i h1
  rw [if_pos h1]
  obtain ⟨n, s2, b2, e2⟩ : ∃ n s2 b2, alt s1 false = (n, s2, b2) := ⟨_, _, _, rfl⟩
  rw [e2] at e
  simp only [Prod.mk.injEq] at e
  obtain ⟨rfl, e3⟩ := e
  have g := must_good (r := 41) (s := s2) (b := b2) (by rw [e3])
  have hb2 := g.1
  subst hb2
  rw [h _ _ _ _ ht e2]
  dsimp only
  rw [must_ext (by decide) e3]
 ·
  rename_i h1
  rw [if_neg h1]
  split at e
  · rename_i h2; rw [if_pos h2]; simp only [Prod.mk.injEq] at e ⊢; exact ⟨e.1, by rw [e.2.1], trivial⟩
  ·
   rename_i h2
   rw [if_neg h2]
   split at e
   · rename_i h3; rw [if_pos h3]; simp only [Prod.mk.injEq] at e ⊢; exact ⟨e.1, by rw [e.2.1], trivial⟩
   ·
    rename_i h3
    rw [if_neg h3]
    split at e
    · rename_i h4; rw [if_pos h4]; simp only [Prod.mk.injEq] at e ⊢; exact ⟨e.1, by rw [e.2.1], trivial⟩
    ·
     rename_i h4
     rw [if_neg h4]
     split at e
     ·
      rename_i h5
      rw [if_pos h5]
      obtain ⟨x, s2, b2, e2⟩ : ∃ n s2 b2, tkM s1 false = (n, s2, b2) := ⟨_, _, _, rfl⟩
      rw [e2] at e
      simp only [Prod.mk.injEq] at e
      obtain ⟨rfl, rfl, rfl⟩ := e
      rw [(tk_ext e2).1]
     ·
      rename_i h5
      rw [if_neg h5]
      split at e
      ·
       rename_i h6
       rw [if_pos h6]; exact set_ext ht e
      ·
       rename_i h6
       rw [if_neg h6]; simp only [Prod.mk.injEq] at e ⊢; exact ⟨e.1, by rw [e.2.1], e.2.2⟩
end Go.Vai
set_option linter.unusedVariables false
set_option linter.unusedSimpArgs false
namespace Go.Vai
open Go.Nfa
def Bx (X : Rdr) : Prop := ∀ s, (X s true).2.2 = true
theorem Bx.no {X : Rdr} (h : Bx X) : ∀ s N s', X s true = (N, s', false) → False := fun s N s' e => by have := h s; rw [e] at this; cases this
theorem tk_true (s : List Int) : (tkM s true).2.2 = true := by unfold tkM; split <;> rfl
theorem atom_bx {alt : Rdr} (h : Bx alt) : Bx (atomM alt) := by
 intro s
 unfold atomM
 obtain ⟨r, s1, b1, e⟩ : ∃ r s1 b1, tkM s true = (r, s1, b1) := ⟨_, _, _, rfl⟩
 have hb := tk_true s
 rw [e] at hb
 have hb : b1 = true := hb
 subst hb
 rw [e]
 dsimp only
 split
 · rw [h s1]; rfl
 ·
  split
  · rfl
  ·
   split
   · rfl
   ·
    split
    · rfl
    ·
     split
     · exact tk_true s1
     ·
      split
      ·
       cases q : (setM s1 true).2.2 with
       | true => rfl
       | false => have := setM_bad q; cases this
      · rfl
theorem row_bx (piece : Rdr) : Bx (rowM piece) := by
 intro s
 unfold rowM
 rw [rowL_stop (by rintro ⟨h, _⟩; cases h)]
 rfl
theorem alt_bx {row : Rdr} (h : Bx row) : Bx (altM row) := by
 intro s
 unfold altM
 dsimp only
 rw [h s, altL_stop (by rintro ⟨h, _⟩; cases h)]
theorem altF_bx : ∀ f, Bx (altF f)
 | 0 => fun s => rfl
 | f + 1 => alt_bx (row_bx _)
theorem piece_ext {atom atom' : Rdr} (hb : Bx atom) (h : Xt atom atom') : Xt (pieceM atom) (pieceM atom') := by
 intro s s' N t ht e
 unfold pieceM at e ⊢
 obtain ⟨n, s1, b1, e1⟩ : ∃ r s1 b1, atom s false = (r, s1, b1) := ⟨_, _, _, rfl⟩
 rw [e1] at e
 dsimp only at e
 obtain ⟨q, s2, b2, e2⟩ : ∃ r s1' b1', repM s1 b1 = (r, s1', b1') := ⟨_, _, _, rfl⟩
 rw [e2] at e
 dsimp only at e
 have hx : decide (nx (s ++ t) = 94 ∨ nx (s ++ t) = 36) = decide (nx s = 94 ∨ nx s = 36) := by
  cases s with
  | nil => rw [List.nil_append, ht.nx]; decide
  | cons r s => rfl
 have hb2 : b2 = false := by
  split at e
  · simp only [Prod.mk.injEq, Bool.or_eq_false_iff] at e; exact e.2.2.1
  · simp only [Prod.mk.injEq] at e; exact e.2.2
 subst hb2
 have hb1 : b1 = false := (rep_good (s := s1) (b := b1) (by rw [e2])).1
 subst hb1
 rw [h _ _ _ _ ht e1]
 dsimp only
 rw [rep_ext ht e2]
 dsimp only
 split at e
 ·
  rename_i hq
  rw [if_pos hq, hx]
  simp only [Prod.mk.injEq, Bool.false_or] at e ⊢
  exact ⟨e.1, by rw [e.2.1], e.2.2⟩
 ·
  rename_i hq
  rw [if_neg hq]
  simp only [Prod.mk.injEq] at e ⊢
  exact ⟨e.1, by rw [e.2.1], trivial⟩
theorem rowL_bad {piece : Rdr} {f : Nat} {ks ks' : List Nd} {s s' : List Int} {b : Bool} (h : rowL piece f ks s b = (ks', s', false)) : b = false := by
 cases b with
 | false => rfl
 | true => rw [rowL_stop (by rintro ⟨h, _⟩; cases h)] at h; cases h
theorem rowL_ext {piece piece' : Rdr} (h1 : Shr1 piece) (h : Xt piece piece') {t : List Int} (ht : Cl t) : ∀ (f : Nat) {f' : Nat} {ks ks' : List Nd} {s s' : List Int}, s.length ≤ f → (s ++ t).length ≤ f' → rowL piece f ks s false = (ks', s', false) → rowL piece' f' ks (s ++ t) false = (ks', s' ++ t, false) := by
 intro f
 induction f with
 | zero =>
  intro f' ks ks' s s' hl _ e
  have : s = [] := List.length_eq_zero_iff.1 (by omega)
  subst this
  simp only [rowL, Prod.mk.injEq] at e
  obtain ⟨rfl, rfl, _⟩ := e
  exact rowL_stop (by rintro ⟨_, _, _, h⟩; exact h ht.nx)
 | succ f ih =>
  intro f' ks ks' s s' hl hl' e
  by_cases hc : 0 ≤ nx s ∧ ¬ nx s = 124 ∧ ¬ nx s = 41
  ·
   have hn := ne_of_nx hc.1
   rw [rowL, if_pos ⟨rfl, hc⟩] at e
   have hlt := h1 s false hc.1
   obtain ⟨n, s1, b1, e1⟩ : ∃ r s1 b1, piece s false = (r, s1, b1) := ⟨_, _, _, rfl⟩
   rw [e1] at e hlt
   dsimp only at e hlt
   have hb := rowL_bad e
   subst hb
   obtain ⟨g, rfl⟩ : ∃ g, f' = g + 1 := ⟨f' - 1, by rw [List.length_append] at hl'; omega⟩
   rw [rowL, if_pos ⟨rfl, by rw [nx_app hn]; exact hc⟩, h _ _ _ _ ht e1]
   exact ih (by omega) (by rw [List.length_append] at hl' ⊢; omega) e
  ·
   rw [rowL_stop (by rintro ⟨_, h⟩; exact hc h)] at e
   simp only [Prod.mk.injEq] at e
   obtain ⟨rfl, rfl, _⟩ := e
   refine rowL_stop (by
    rintro ⟨_, a, b, c⟩
    cases s with
    | nil => exact c ht.nx
    | cons r s => exact hc ⟨a, b, c⟩)
theorem row_ext {piece piece' : Rdr} (h1 : Shr1 piece) (h : Xt piece piece') : Xt (rowM piece) (rowM piece') := by
 intro s s' N t ht e
 unfold rowM at e ⊢
 obtain ⟨ks, s1, b1, e1⟩ : ∃ r s1 b1, rowL piece s.length [] s false = (r, s1, b1) := ⟨_, _, _, rfl⟩
 rw [e1] at e
 dsimp only at e
 split at e
 · simp only [Prod.mk.injEq] at e; exact absurd e.2.2 (by simp)
 ·
  rename_i hk
  simp only [Prod.mk.injEq] at e
  obtain ⟨rfl, rfl, rfl⟩ := e
  rw [rowL_ext h1 h ht s.length (Nat.le_refl _) (Nat.le_refl _) e1]
  dsimp only
  rw [if_neg hk]
theorem altL_bad {row : Rdr} {f : Nat} {ks ks' : List Nd} {s s' : List Int} {b : Bool} (h : altL row f ks s b = (ks', s', false)) : b = false := by
 cases b with
 | false => rfl
 | true => rw [altL_stop (by rintro ⟨h, _⟩; cases h)] at h; cases h
theorem altL_ext {row row' : Rdr} (hs : Shr row) (h : Xt row row') {t : List Int} (ht : Cl t) : ∀ (f : Nat) {f' : Nat} {ks ks' : List Nd} {s s' : List Int}, s.length ≤ f → (s ++ t).length ≤ f' → altL row f ks s false = (ks', s', false) → altL row' f' ks (s ++ t) false = (ks', s' ++ t, false) := by
 intro f
 induction f with
 | zero =>
  intro f' ks ks' s s' hl _ e
  have : s = [] := List.length_eq_zero_iff.1 (by omega)
  subst this
  simp only [altL, Prod.mk.injEq] at e
  obtain ⟨rfl, rfl, _⟩ := e
  exact altL_stop (by rintro ⟨_, h⟩; rw [List.nil_append, ht.nx] at h; exact absurd h (by decide))
 | succ f ih =>
  intro f' ks ks' s s' hl hl' e
  by_cases hc : nx s = 124
  ·
   have hn := ne_of_nx (s := s) (by omega)
   have htl := nx_pos (s := s) (by omega)
   rw [altL, if_pos ⟨rfl, hc⟩] at e
   have hle := (hs s.tail false).length_le
   obtain ⟨n, s1, b1, e1⟩ : ∃ r s1 b1, row s.tail false = (r, s1, b1) := ⟨_, _, _, rfl⟩
   rw [e1] at e hle
   dsimp only at e hle
   have hb := altL_bad e
   subst hb
   obtain ⟨g, rfl⟩ : ∃ g, f' = g + 1 := ⟨f' - 1, by rw [List.length_append] at hl'; omega⟩
   rw [altL, if_pos ⟨rfl, by rw [nx_app hn]; exact hc⟩, tail_app hn, h _ _ _ _ ht e1]
   exact ih (by omega) (by rw [List.length_append] at hl' ⊢; omega) e
  ·
   rw [altL_stop (by rintro ⟨_, h⟩; exact hc h)] at e
   simp only [Prod.mk.injEq] at e
   obtain ⟨rfl, rfl, _⟩ := e
   refine altL_stop (by
    rintro ⟨_, a⟩
    cases s with
    | nil => rw [List.nil_append, ht.nx] at a; exact absurd a (by decide)
    | cons r s => exact hc a)
theorem alt_ext {row row' : Rdr} (hs : Shr row) (h : Xt row row') : Xt (altM row) (altM row') := by
 intro s s' N t ht e
 unfold altM at e ⊢
 have hle := (hs s false).length_le
 obtain ⟨n, s1, b1, e1⟩ : ∃ r s1 b1, row s false = (r, s1, b1) := ⟨_, _, _, rfl⟩
 rw [e1] at e hle
 dsimp only at e hle
 obtain ⟨ks, s2, b2, e2⟩ : ∃ r s1' b1', altL row s.length [n] s1 b1 = (r, s1', b1') := ⟨_, _, _, rfl⟩
 rw [e2] at e
 simp only [Prod.mk.injEq] at e
 obtain ⟨rfl, rfl, rfl⟩ := e
 have hb := altL_bad e2
 subst hb
 rw [h _ _ _ _ ht e1]
 dsimp only
 rw [altL_ext hs h ht s.length hle (by rw [List.length_append, List.length_append]; omega) e2]
theorem altF_ext : ∀ (f : Nat) {f' : Nat}, f ≤ f' → Xt (altF f) (altF f') := by
 intro f
 induction f with
 | zero => intro f' _ s s' N t _ e; cases e
 | succ f ih =>
  intro f' hf
  obtain ⟨g, rfl⟩ : ∃ g, f' = g + 1 := ⟨f' - 1, by omega⟩
  exact alt_ext (rowF_le f) (row_ext (pieceF_lt f) (piece_ext (atom_bx (altF_bx f)) (atom_ext (altF_bx f).no (ih (by omega)))))
theorem alt_paren {f f' : Nat} {s : List Int} {N : Nd} (h : altF f s false = (N, [], false)) (hf : f ≤ f') : altF (f' + 1) (40 :: (s ++ [41])) false = (N, [], false) := by
 have h1 := altF_ext f hf s [] N [41] ⟨[], rfl⟩ h
 rw [List.nil_append] at h1
 have ha : atomF f' (40 :: (s ++ [41])) false = (N, [], false) := by
  show atomM (altF f') _ _ = _
  unfold atomM
  rw [show tkM (40 :: (s ++ [41])) false = (40, s ++ [41], false) from rfl]
  dsimp only
  rw [if_pos rfl, h1]; rfl
 have hp : pieceF f' (40 :: (s ++ [41])) false = (N, [], false) := by
  show pieceM (atomF f') _ false = _
  unfold pieceM
  rw [ha]; rfl
 have hl : (40 :: (s ++ [41])).length = (s ++ [41]).length + 1 := rfl
 have e1 : rowL (pieceF f') (40 :: (s ++ [41])).length [] (40 :: (s ++ [41])) false = ([N], [], false) := by
  rw [hl, rowL, if_pos ⟨rfl, (by decide : (0 : Int) ≤ 40), (by decide : ¬ (40 : Int) = 124), (by decide : ¬ (40 : Int) = 41)⟩, hp]
  exact rowL_stop (by rintro ⟨_, a, _⟩; exact absurd a (show ¬ (0 : Int) ≤ nx ([] : List Int) by decide))
 have hr : rowM (pieceF f') (40 :: (s ++ [41])) false = (N, [], false) := by
  unfold rowM; rw [e1]; rfl
 have e2 : altL (rowM (pieceF f')) (40 :: (s ++ [41])).length [N] [] false = ([N], [], false) := altL_stop (by rintro ⟨_, h⟩; exact absurd h (by decide))
 show altM (rowM (pieceF f')) _ false = _
 unfold altM
 rw [hr]
 dsimp only
 rw [e2]; rfl
end Go.Vai
namespace Go.Vai
open Go.Nfa Go.Utf
noncomputable section
def pW : Nat → ByteArray → ByteArray
 | 0, s => s
 | i + 1, s => ((⟨#[40]⟩ : ByteArray) ++ pW i s) ++ (⟨#[41]⟩ : ByteArray)
theorem pW_size : ∀ (i : Nat) (s : ByteArray), (pW i s).size = s.size + 2 * i
 | 0, s => rfl
 | i + 1, s => by
  rw [pW, ByteArray.size_append, ByteArray.size_append, pW_size i s]
  show 1 + _ + 1 = _
  omega
theorem getD_app {l : List UInt8} {c : UInt8} {i : Nat} (h : i < l.length) : (l ++ [c]).getD i 0 = l.getD i 0 := by
 rw [List.getD_eq_getElem?_getD, List.getD_eq_getElem?_getD, List.getElem?_append_left h]
theorem check_app {n k b1 b2 b3 c1 c2 c3 sz lo hi : Nat} (h : Lib.checkN n b1 b2 b3 sz lo hi = some k) (h1 : 2 ≤ n → c1 = b1) (h2 : 3 ≤ n → c2 = b2) (h3 : 4 ≤ n → c3 = b3) : Lib.checkN (n + 1) c1 c2 c3 sz lo hi = some k ∧ k ≤ n ∧ 2 ≤ k := by
 unfold Lib.checkN at h ⊢
 split at h
 ·
  rename_i e
  split at h
  · cases h
  ·
   rename_i hc
   cases h
   have := h1 (by omega)
   rw [if_pos e, if_neg (by omega)]; exact ⟨rfl, by omega, by omega⟩
 ·
  rename_i e
  split at h
  ·
   rename_i e2
   split at h
   · cases h
   ·
    rename_i hc
    cases h
    have := h1 (by omega); have := h2 (by omega)
    rw [if_neg e, if_pos e2, if_neg (by omega)]; exact ⟨rfl, by omega, by omega⟩
  ·
   rename_i e2
   split at h
   ·
    rename_i e3
    split at h
    · cases h
    ·
     rename_i hc
     cases h
     have := h1 (by omega); have := h2 (by omega); have := h3 (by omega)
     rw [if_neg e, if_neg e2, if_pos e3, if_neg (by omega)]; exact ⟨rfl, by omega, by omega⟩
   · cases h
theorem valid_snoc {c : UInt8} (hc : c.toNat < 128) : ∀ (n : Nat) (l : List UInt8), l.length ≤ n → Lib.validD l = true → Lib.validD (l ++ [c]) = true := by
 intro n
 induction n with
 | zero =>
  intro l hl _
  have : l = [] := List.length_eq_zero_iff.1 (by omega)
  subst this
  rw [List.nil_append, Lib.validD_cons c [] hc]; rfl
 | succ n ih =>
  intro l hl h
  cases l with
  | nil => rw [List.nil_append, Lib.validD_cons c [] hc]; rfl
  | cons b l =>
   by_cases hb : b.toNat < 128
   ·
    rw [Lib.validD_cons b l hb] at h
    rw [List.cons_append, Lib.validD_cons b _ hb]
    exact ih l (by simp only [List.length_cons] at hl; omega) h
   ·
    have h0 : 128 ≤ ((b :: l).getD 0 0).toNat := by show 128 ≤ b.toNat; omega
    rw [Lib.validD_lead (b :: l) (by simp) h0] at h
    have h0' : 128 ≤ ((b :: l ++ [c]).getD 0 0).toNat := h0
    rw [Lib.validD_lead (b :: l ++ [c]) (by simp) h0']
    split at h
    · cases h
    ·
     rename_i k hk
     have g := check_app (c1 := ((b :: l ++ [c]).getD 1 0).toNat) (c2 := ((b :: l ++ [c]).getD 2 0).toNat) (c3 := ((b :: l ++ [c]).getD 3 0).toNat) hk
      (fun q => congrArg UInt8.toNat (getD_app (by omega))) (fun q => congrArg UInt8.toNat (getD_app (by omega))) (fun q => congrArg UInt8.toNat (getD_app (by omega)))
     have hlen : (b :: l ++ [c]).length = (b :: l).length + 1 := by simp
     rw [hlen]
     have e : Lib.checkN ((b :: l).length + 1) ((b :: l ++ [c]).getD 1 0).toNat ((b :: l ++ [c]).getD 2 0).toNat ((b :: l ++ [c]).getD 3 0).toNat (Lib.firstT ((b :: l ++ [c]).getD 0 0).toNat % 8) (Lib.accLo (Lib.firstT ((b :: l ++ [c]).getD 0 0).toNat / 16)) (Lib.accHi (Lib.firstT ((b :: l ++ [c]).getD 0 0).toNat / 16)) = some k := g.1
     rw [e]
     simp only
     rw [List.drop_append_of_le_length g.2.1]
     refine ih _ ?_ h
     rw [List.length_drop]
     have := g.2.2
     simp only [List.length_cons] at hl ⊢
     omega
theorem all_paren {bs : List Nat} (hb : ∀ b ∈ bs, b < 256) (h : ¬ (65533 : Int) ∈ allM bs) : allM (40 :: (bs ++ [41])) = 40 :: (allM bs ++ [41]) := by
 have e0 : putM ⟨0, 0, 0, 0, 0⟩ 40 = ([40], ⟨0, 0, 0, 128, 191⟩) := rfl
 have same : ∀ (bs : List Nat) (q q' : Ust), q.w = 0 → q'.w = 0 → (runM q bs).1 = (runM q' bs).1 ∧ ((runM q bs).2 = (runM q' bs).2 ∨ ((runM q bs).2.w = 0 ∧ (runM q' bs).2.w = 0)) := by
  intro bs
  induction bs with
  | nil => intro q q' h h'; exact ⟨rfl, .inr ⟨h, h'⟩⟩
  | cons b bs ih =>
   intro q q' h h'
   have p : (putM q b).1 = (putM q' b).1 ∧ ((putM q b).2 = (putM q' b).2 ∨ ((putM q b).2.w = 0 ∧ (putM q' b).2.w = 0)) := by
    unfold putM begM
    rw [if_pos h, if_pos h']
    repeat' split
    all_goals first
     | exact ⟨rfl, .inr ⟨rfl, rfl⟩⟩
     | exact ⟨rfl, .inl rfl⟩
   simp only [runM]
   rcases p.2 with e | ⟨e1, e2⟩
   · rw [p.1, e]; exact ⟨rfl, .inl rfl⟩
   ·
    have i := ih _ _ e1 e2
    rw [p.1, i.1]; exact ⟨rfl, i.2⟩
 have hw : (runM ⟨0, 0, 0, 0, 0⟩ bs).2.w = 0 := by
  by_cases e : (runM ⟨0, 0, 0, 0, 0⟩ bs).2.w = 0
  · exact e
  ·
   exfalso
   refine h ?_
   unfold allM endM
   rw [if_neg e]; simp
 have s := same bs ⟨0, 0, 0, 128, 191⟩ ⟨0, 0, 0, 0, 0⟩ rfl rfl
 have hw2 : (runM ⟨0, 0, 0, 128, 191⟩ bs).2.w = 0 := by
  rcases s.2 with e | e
  · rw [e]; exact hw
  · exact e.1
 have hend : (runM ⟨0, 0, 0, 0, 0⟩ bs).1 = allM bs := by unfold allM endM; rw [if_pos hw, List.append_nil]
 have e1 : runM ⟨0, 0, 0, 0, 0⟩ (40 :: (bs ++ [41])) = (40 :: ((runM ⟨0, 0, 0, 128, 191⟩ bs).1 ++ [41]), (putM (runM ⟨0, 0, 0, 128, 191⟩ bs).2 41).2) := by
  have e2 : (putM (runM ⟨0, 0, 0, 128, 191⟩ bs).2 41).1 = [41] := by unfold putM begM; rw [if_pos hw2]; rfl
  simp only [runM, e0, runM_snoc, e2, List.singleton_append]
 have hw3 : (putM (runM ⟨0, 0, 0, 128, 191⟩ bs).2 41).2.w = 0 := by unfold putM begM; rw [if_pos hw2]; rfl
 conv => lhs; unfold allM endM
 rw [e1]
 dsimp only
 rw [if_pos hw3, s.1, hend, List.append_nil]
theorem parse_paren {s : ByteArray} {N : Nd} (hs : s.size + 2 ≤ 60) (h : parseM s = some N) : parseM (((⟨#[40]⟩ : ByteArray) ++ s) ++ (⟨#[41]⟩ : ByteArray)) = some N := by
 unfold parseM at h
 split at h
 · cases h
 ·
  rename_i h1
  split at h
  · cases h
  ·
   rename_i h2
   cases h
   have hnb : ¬ (65533 : Int) ∈ allM (bytesOf s) := fun e => h1 (.inr (.inr e))
   have hv : Lib.validD s.data.toList = true := by
    cases e : Lib.validD s.data.toList with
    | true => rfl
    | false => exact absurd (.inr (.inl e)) h1
   have hby : bytesOf (((⟨#[40]⟩ : ByteArray) ++ s) ++ (⟨#[41]⟩ : ByteArray)) = 40 :: (bytesOf s ++ [41]) := by
    rw [bytes_app, bytes_app, bytes_lit #[40], bytes_lit #[41]]; rfl
   have hal := all_paren (bytesOf_lt s) hnb
   have hsz : (((⟨#[40]⟩ : ByteArray) ++ s) ++ (⟨#[41]⟩ : ByteArray)).size = s.size + 2 := by
    rw [ByteArray.size_append, ByteArray.size_append]; show 1 + _ + 1 = _; omega
   have hvv : Lib.validD (((⟨#[40]⟩ : ByteArray) ++ s) ++ (⟨#[41]⟩ : ByteArray)).data.toList = true := by
    rw [ByteArray.data_append, ByteArray.data_append, Array.toList_append, Array.toList_append]
    show Lib.validD ((40 :: s.data.toList) ++ [41]) = true
    rw [List.cons_append, Lib.validD_cons 40 _ (by decide)]
    exact valid_snoc (by decide) _ _ (Nat.le_refl _) hv
   have hb : (altF ((allM (bytesOf s)).length + 1) (allM (bytesOf s)) false).2.2 = false := by
    cases e : (altF ((allM (bytesOf s)).length + 1) (allM (bytesOf s)) false).2.2 with
    | true => exact absurd (.inl e) h2
    | false => rfl
   have hr : (altF ((allM (bytesOf s)).length + 1) (allM (bytesOf s)) false).2.1 = [] := List.length_eq_zero_iff.1 (by
    by_cases e : 0 < (altF ((allM (bytesOf s)).length + 1) (allM (bytesOf s)) false).2.1.length
    · exact absurd (.inr e) h2
    · omega)
   obtain ⟨n, s1, b1, e⟩ : ∃ n s1 b1, altF ((allM (bytesOf s)).length + 1) (allM (bytesOf s)) false = (n, s1, b1) := ⟨_, _, _, rfl⟩
   rw [e] at hb hr ⊢
   have hb : b1 = false := hb
   have hr : s1 = [] := hr
   subst hb hr
   have hp := alt_paren e (f' := (40 :: (allM (bytesOf s) ++ [41])).length) (by simp only [List.length_cons, List.length_append, List.length_nil]; omega)
   unfold parseM
   rw [hby, hal, if_neg, if_neg]
   · rw [hp]
   · rw [hp]; simp
   ·
    rintro (a | a | a)
    · omega
    · rw [hvv] at a; cases a
    ·
     rcases List.mem_cons.1 a with a | a
     · exact absurd a (by decide)
     ·
      rcases List.mem_append.1 a with a | a
      · exact hnb a
      · simp at a
theorem parse_pW {s : ByteArray} {N : Nd} (h : parseM s = some N) : ∀ (i : Nat), s.size + 2 * i ≤ 60 → parseM (pW i s) = some N := by
 intro i
 induction i with
 | zero => intro _; exact h
 | succ i ih =>
  intro hi
  rw [pW]
  exact parse_paren (by rw [pW_size]; omega) (ih (by omega))
theorem catp1 {i : Nat} {s : ByteArray} (h : s.size + 2 * i ≤ 100) : (⟨#[40]⟩ : ByteArray).size + (pW i s).size ≤ 1000000000 := by rw [pW_size]; show 1 + _ ≤ _; omega
theorem catp2 {i : Nat} {s : ByteArray} (h : s.size + 2 * i ≤ 100) : ((⟨#[40]⟩ : ByteArray) ++ pW i s).size + (⟨#[41]⟩ : ByteArray).size ≤ 1000000000 := by rw [ByteArray.size_append, pW_size]; show 1 + _ + 1 ≤ _; omega
theorem beq_bif {a b : Bool} : (bif a then (bif b then true else false) else (bif b then false else true)) = decide (a = b) := by cases a <;> cases b <;> rfl
end
end Go.Vai

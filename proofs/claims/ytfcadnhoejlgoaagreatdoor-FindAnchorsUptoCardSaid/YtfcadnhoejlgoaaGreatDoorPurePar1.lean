/-
  What is proved here: a reader of patterns as a function over lists of signs; how much it takes; what follows a whole one does not matter. what the reader of patterns reads, if it is not bad, may be a pattern, and is no greater than what was taken. No conditions but those that the theorems state.
-/
import Derived.Test.YtfcadnhoejlgoaaGreatDoorPureNfa1
import Derived.Test.YtfcadnhoejlgoaaGreatDoorNA
set_option linter.unusedVariables false
set_option linter.unusedSimpArgs false
namespace Go.Nfa
def nx : List Int → Int
 | [] => -1
 | r :: _ => r
abbrev Rd (α : Type) := α × List Int × Bool
def tkM (s : List Int) (b : Bool) : Rd Int := if nx s < 0 then (nx s, s, true) else (nx s, s.tail, b)
def isR (r : Int) (s : List Int) : List Int := if nx s = r then s.tail else s
def mustM (r : Int) (s : List Int) (b : Bool) : List Int × Bool := if b then (s, true) else (isR r s, !decide (nx s = r))
def digM (s : List Int) (b : Bool) : Rd Int := if (tkM s b).1 < 48 ∨ 57 < (tkM s b).1 then (0, (tkM s b).2.1, true) else ((tkM s b).1 - 48, (tkM s b).2.1, (tkM s b).2.2)
def mostM (d : Int) (s : List Int) (b : Bool) : Rd Int :=
 if nx s = 44 then
  if nx s.tail = 125 then (-1, s.tail, b)
  else ((digM s.tail b).1, (digM s.tail b).2.1, (digM s.tail b).2.2 || decide ((digM s.tail b).1 < d))
 else (d, s, b)
def repM (s : List Int) (b : Bool) : Rd (Int × Int × Bool) :=
 if nx s = 42 then ((0, -1, true), s.tail, b)
 else if nx s = 43 then ((1, -1, true), s.tail, b)
 else if nx s = 63 then ((0, 1, true), s.tail, b)
 else if nx s = 123 then
  (((digM s.tail b).1, (mostM (digM s.tail b).1 (digM s.tail b).2.1 (digM s.tail b).2.2).1, true),
   mustM 125 (mostM (digM s.tail b).1 (digM s.tail b).2.1 (digM s.tail b).2.2).2.1 (mostM (digM s.tail b).1 (digM s.tail b).2.1 (digM s.tail b).2.2).2.2)
 else ((0, 0, false), s, b)
def memM (s : List Int) (b : Bool) : Rd Int := if (tkM s b).1 = 92 then tkM (tkM s b).2.1 (tkM s b).2.2 else tkM s b
def hiM (m : Rd Int) : Rd Int :=
 if 2 ≤ m.2.1.length ∧ m.2.1.getD 0 0 = 45 ∧ ¬ m.2.1.getD 1 0 = 93 then memM (tkM m.2.1 m.2.2).2.1 (tkM m.2.1 m.2.2).2.2 else m
def setL : Nat → List (Int × Int) → List Int → Bool → Rd (List (Int × Int))
 | 0, l, s, b => (l, s, b)
 | f + 1, l, s, b => if b = false ∧ ¬ nx s = 93 then
   setL f (l ++ [((memM s b).1, (hiM (memM s b)).1)]) (hiM (memM s b)).2.1 ((hiM (memM s b)).2.2 || decide ((hiM (memM s b)).1 < (memM s b).1))
  else (l, s, b)
def setM (s : List Int) (b : Bool) : Rd Nd :=
 let l := setL ((isR 94 s).length + 1) [] (isR 94 s) b
 (.mk 2 l.1 (decide (nx s = 94)) [] 0 0, (mustM 93 l.2.1 l.2.2).1, (mustM 93 l.2.1 l.2.2).2 || decide (l.1.length = 0))
def litN (r : Int) : Nd := .mk 2 [(r, r)] false [] 0 0
def zeroN : Nd := .mk 0 [] false [] 0 0
def specB (r : Int) : Bool := decide (r ∈ [124, 42, 43, 63, 123, 125, 40, 41, 91, 93, 46, 94, 36, 92])
def ofN (k : Int) (ks : List Nd) : Nd := if ks.length = 1 then ks.headD zeroN else .mk k [] false ks 0 0
abbrev Rdr := List Int → Bool → Rd Nd
def atomM (alt : Rdr) (s : List Int) (b : Bool) : Rd Nd :=
 let r := (tkM s b).1
 let s1 := (tkM s b).2.1
 let b1 := (tkM s b).2.2
 if r = 40 then ((alt s1 b1).1, mustM 41 (alt s1 b1).2.1 (alt s1 b1).2.2)
 else if r = 46 then (.mk 2 [] true [] 0 0, s1, b1)
 else if r = 94 then (.mk 6 [] false [] 0 0, s1, b1)
 else if r = 36 then (.mk 7 [] false [] 0 0, s1, b1)
 else if r = 92 then (litN (tkM s1 b1).1, (tkM s1 b1).2)
 else if r = 91 then setM s1 b1
 else (litN r, s1, b1 || specB r)
def pieceM (atom : Rdr) (s : List Int) (b : Bool) : Rd Nd :=
 let n := atom s b
 let q := repM n.2.1 n.2.2
 if q.1.2.2 then (.mk 5 [] false [n.1] q.1.1 q.1.2.1, q.2.1, q.2.2 || decide (nx s = 94 ∨ nx s = 36)) else (n.1, q.2)
def rowL (piece : Rdr) : Nat → List Nd → List Int → Bool → Rd (List Nd)
 | 0, ks, s, b => (ks, s, b)
 | f + 1, ks, s, b => if b = false ∧ 0 ≤ nx s ∧ ¬ nx s = 124 ∧ ¬ nx s = 41 then rowL piece f (ks ++ [(piece s b).1]) (piece s b).2.1 (piece s b).2.2 else (ks, s, b)
def rowM (piece : Rdr) (s : List Int) (b : Bool) : Rd Nd :=
 let l := rowL piece s.length [] s b
 if l.1.length = 0 then (zeroN, l.2.1, true) else (ofN 3 l.1, l.2)
def altL (row : Rdr) : Nat → List Nd → List Int → Bool → Rd (List Nd)
 | 0, ks, s, b => (ks, s, b)
 | f + 1, ks, s, b => if b = false ∧ nx s = 124 then altL row f (ks ++ [(row s.tail b).1]) (row s.tail b).2.1 (row s.tail b).2.2 else (ks, s, b)
def altM (row : Rdr) (s : List Int) (b : Bool) : Rd Nd :=
 let l := altL row s.length [(row s b).1] (row s b).2.1 (row s b).2.2
 (ofN 4 l.1, l.2)
def altF : Nat → Rdr
 | 0 => fun s _ => (zeroN, s, true)
 | f + 1 => altM (rowM (pieceM (atomM (altF f))))
def rowF (f : Nat) : Rdr := rowM (pieceM (atomM (altF f)))
def pieceF (f : Nat) : Rdr := pieceM (atomM (altF f))
def atomF (f : Nat) : Rdr := atomM (altF f)
def Shr (X : Rdr) : Prop := ∀ s b, (X s b).2.1 <:+ s
theorem tl_le (s : List Int) : s.tail <:+ s := List.tail_suffix s
theorem nx_pos {s : List Int} (h : 0 ≤ nx s) : s.tail.length + 1 = s.length := by cases s with
 | nil => simp [nx] at h
 | cons r s => simp
theorem tk_le (s : List Int) (b : Bool) : (tkM s b).2.1 <:+ s := by
 unfold tkM; split
 · exact List.suffix_refl _
 · exact tl_le s
theorem is_le (r : Int) (s : List Int) : isR r s <:+ s := by
 unfold isR; split
 · exact tl_le s
 · exact List.suffix_refl _
theorem must_le (r : Int) (s : List Int) (b : Bool) : (mustM r s b).1 <:+ s := by
 unfold mustM; split
 · exact List.suffix_refl _
 · exact is_le r s
theorem dig_le (s : List Int) (b : Bool) : (digM s b).2.1 <:+ s := by
 unfold digM; split <;> exact tk_le s b
theorem most_le (d : Int) (s : List Int) (b : Bool) : (mostM d s b).2.1 <:+ s := by
 unfold mostM; split
 ·
  split
  · exact tl_le s
  · exact List.IsSuffix.trans (dig_le _ _) (tl_le s)
 · exact List.suffix_refl _
theorem rep_le (s : List Int) (b : Bool) : (repM s b).2.1 <:+ s := by
 unfold repM; split
 · exact tl_le s
 ·
  split
  · exact tl_le s
  ·
   split
   · exact tl_le s
   ·
    split
    · exact List.IsSuffix.trans (must_le _ _ _) (List.IsSuffix.trans (most_le _ _ _) (List.IsSuffix.trans (dig_le _ _) (tl_le s)))
    · exact List.suffix_refl _
theorem mem_le (s : List Int) (b : Bool) : (memM s b).2.1 <:+ s := by
 unfold memM; split
 · exact List.IsSuffix.trans (tk_le _ _) (tk_le s b)
 · exact tk_le s b
theorem hi_le (m : Rd Int) : (hiM m).2.1 <:+ m.2.1 := by
 unfold hiM; split
 · exact List.IsSuffix.trans (mem_le _ _) (tk_le _ _)
 · exact List.suffix_refl _
theorem setL_le : ∀ (f : Nat) (l : List (Int × Int)) (s : List Int) (b : Bool), (setL f l s b).2.1 <:+ s := by
 intro f
 induction f with
 | zero => intro l s b; exact List.suffix_refl _
 | succ f ih =>
  intro l s b
  unfold setL; split
  · exact List.IsSuffix.trans (ih _ _ _) (List.IsSuffix.trans (hi_le _) (mem_le _ _))
  · exact List.suffix_refl _
theorem setM_le (s : List Int) (b : Bool) : (setM s b).2.1 <:+ s := by
 unfold setM; exact List.IsSuffix.trans (must_le _ _ _) (List.IsSuffix.trans (setL_le _ _ _ _) (is_le _ _))
theorem atom_le {alt : Rdr} (h : Shr alt) : Shr (atomM alt) := by
 intro s b
 unfold atomM
 dsimp only
 split
 · exact List.IsSuffix.trans (must_le _ _ _) (List.IsSuffix.trans (h _ _) (tk_le _ _))
 ·
  split
  · exact tk_le _ _
  ·
   split
   · exact tk_le _ _
   ·
    split
    · exact tk_le _ _
    ·
     split
     · exact List.IsSuffix.trans (tk_le _ _) (tk_le _ _)
     ·
      split
      · exact List.IsSuffix.trans (setM_le _ _) (tk_le _ _)
      · exact tk_le _ _
theorem piece_le {atom : Rdr} (h : Shr atom) : Shr (pieceM atom) := by
 intro s b
 unfold pieceM
 dsimp only
 split <;> exact List.IsSuffix.trans (rep_le _ _) (h _ _)
theorem rowL_le {piece : Rdr} (h : Shr piece) : ∀ (f : Nat) (ks : List Nd) (s : List Int) (b : Bool), (rowL piece f ks s b).2.1 <:+ s := by
 intro f
 induction f with
 | zero => intro l s b; exact List.suffix_refl _
 | succ f ih =>
  intro l s b
  unfold rowL; split
  · exact List.IsSuffix.trans (ih _ _ _) (h _ _)
  · exact List.suffix_refl _
theorem row_le {piece : Rdr} (h : Shr piece) : Shr (rowM piece) := by
 intro s b
 unfold rowM
 dsimp only
 split <;> exact rowL_le h _ _ _ _
theorem altL_le {row : Rdr} (h : Shr row) : ∀ (f : Nat) (ks : List Nd) (s : List Int) (b : Bool), (altL row f ks s b).2.1 <:+ s := by
 intro f
 induction f with
 | zero => intro l s b; exact List.suffix_refl _
 | succ f ih =>
  intro l s b
  unfold altL; split
  · exact List.IsSuffix.trans (ih _ _ _) (List.IsSuffix.trans (h _ _) (tl_le _))
  · exact List.suffix_refl _
theorem alt_le {row : Rdr} (h : Shr row) : Shr (altM row) := by
 intro s b
 unfold altM
 exact List.IsSuffix.trans (altL_le h _ _ _ _) (h _ _)
theorem altF_le : ∀ f, Shr (altF f)
 | 0 => fun s _ => List.suffix_refl _
 | f + 1 => alt_le (row_le (piece_le (atom_le (altF_le f))))
theorem rowF_le (f : Nat) : Shr (rowF f) := row_le (piece_le (atom_le (altF_le f)))
theorem pieceF_le (f : Nat) : Shr (pieceF f) := piece_le (atom_le (altF_le f))
theorem atomF_le (f : Nat) : Shr (atomF f) := atom_le (altF_le f)
def Shr1 (X : Rdr) : Prop := ∀ s b, 0 ≤ nx s → (X s b).2.1.length < s.length
theorem tk_lt {s : List Int} (h : 0 ≤ nx s) (b : Bool) : (tkM s b).2.1.length < s.length := by
 unfold tkM; rw [if_neg (by omega)]
 have := nx_pos h; dsimp only; omega
theorem atom_lt {alt : Rdr} (h : Shr alt) : Shr1 (atomM alt) := by
 intro s b hn
 have ht := tk_lt hn b
 unfold atomM
 dsimp only
 split
 · exact Nat.lt_of_le_of_lt (List.IsSuffix.trans (must_le _ _ _) (h _ _)).length_le ht
 ·
  split
  · exact ht
  ·
   split
   · exact ht
   ·
    split
    · exact ht
    ·
     split
     · exact Nat.lt_of_le_of_lt (tk_le _ _).length_le ht
     ·
      split
      · exact Nat.lt_of_le_of_lt (setM_le _ _).length_le ht
      · exact ht
theorem piece_lt {atom : Rdr} (h : Shr1 atom) : Shr1 (pieceM atom) := by
 intro s b hn
 unfold pieceM
 dsimp only
 split <;> exact Nat.lt_of_le_of_lt (rep_le _ _).length_le (h _ _ hn)
theorem pieceF_lt (f : Nat) : Shr1 (pieceF f) := piece_lt (atom_lt (altF_le f))
theorem tk_bad {s : List Int} {b : Bool} (h : (tkM s b).2.2 = false) : 0 ≤ nx s ∧ b = false := by
 unfold tkM at h
 split at h
 · cases h
 · exact ⟨by omega, h⟩
theorem mem_bad {s : List Int} {b : Bool} (h : (memM s b).2.2 = false) : (tkM s b).2.2 = false := by
 unfold memM at h
 split at h
 · exact (tk_bad h).2
 · exact h
theorem mem_lt {s : List Int} {b : Bool} (h : (memM s b).2.2 = false) : (memM s b).2.1.length < s.length := by
 have h1 := tk_lt (tk_bad (mem_bad h)).1 b
 unfold memM; split
 · exact Nat.lt_of_le_of_lt (tk_le _ _).length_le h1
 · exact h1
theorem hi_bad {m : Rd Int} (h : (hiM m).2.2 = false) : m.2.2 = false := by
 unfold hiM at h
 split at h
 · exact (tk_bad (tk_bad (mem_bad h)).2).2
 · exact h
end Go.Nfa
namespace Go.Vai
open Go.Nfa
noncomputable section
def okS (s : List Int) : Prop := ∀ r ∈ s, signB r = true
theorem okS.sfx {s t : List Int} (h : okS s) (k : t <:+ s) : okS t := fun r m => h r (k.subset m)
theorem okS.tl {s : List Int} (h : okS s) : okS s.tail := h.sfx (tl_le s)
theorem okS.nx {s : List Int} (h : okS s) (k : 0 ≤ nx s) : signB (nx s) = true := by
 cases s with
 | nil => simp [Nfa.nx] at k
 | cons r s => exact h r (by simp [Nfa.nx])
theorem tk_good {s : List Int} {b : Bool} (h : (tkM s b).2.2 = false) : 0 ≤ nx s ∧ b = false ∧ tkM s b = (nx s, s.tail, false) ∧ s.tail.length + 1 = s.length := by
 obtain ⟨h1, h2⟩ := tk_bad h
 exact ⟨h1, h2, by subst h2; unfold tkM; rw [if_neg (by omega)], nx_pos h1⟩
theorem must_good {r : Int} {s : List Int} {b : Bool} (h : (mustM r s b).2 = false) : b = false ∧ nx s = r := by
 unfold mustM at h
 cases b with
 | true => simp at h
 | false => exact ⟨rfl, by simpa using h⟩
theorem dig_good {s : List Int} {b : Bool} (h : (digM s b).2.2 = false) : b = false ∧ 0 ≤ (digM s b).1 ∧ (digM s b).1 ≤ 9 := by
 unfold digM at h ⊢
 split at h
 · cases h
 ·
  rename_i hn
  have := tk_good h
  rw [if_neg hn]
  exact ⟨this.2.1, by omega, by omega⟩
theorem most_good {d : Int} {s : List Int} {b : Bool} (hd : 0 ≤ d ∧ d ≤ 9) (h : (mostM d s b).2.2 = false) : b = false ∧ (mostM d s b).1 ≤ 9 ∧ ((mostM d s b).1 = -1 ∨ d ≤ (mostM d s b).1) := by
 unfold mostM at h ⊢
 split at h
 ·
  rename_i h1
  rw [if_pos h1]
  split at h
  ·
   rename_i h2
   rw [if_pos h2]; exact ⟨h, by omega, .inl rfl⟩
  ·
   rename_i h2
   rw [if_neg h2]
   simp only [Bool.or_eq_false_iff, decide_eq_false_iff_not] at h
   have := dig_good h.1
   exact ⟨this.1, this.2.2, .inr (by have := h.2; dsimp only; omega)⟩
 ·
  rename_i h1
  rw [if_neg h1]
  exact ⟨h, hd.2, .inr (Int.le_refl _)⟩
theorem rep_good {s : List Int} {b : Bool} (h : (repM s b).2.2 = false) : b = false ∧ ((repM s b).1.2.2 = true → (repM s b).2.1.length + 1 ≤ s.length ∧ 0 ≤ (repM s b).1.1 ∧ (repM s b).1.1 ≤ 9 ∧ (repM s b).1.2.1 ≤ 9 ∧ ((repM s b).1.2.1 = -1 ∨ (repM s b).1.1 ≤ (repM s b).1.2.1)) := by
 unfold repM at h ⊢
 split at h
 · rename_i h1; rw [if_pos h1]; exact ⟨h, fun _ => ⟨by have := nx_pos (s := s) (by omega); dsimp only; omega, (by decide : (0 : Int) ≤ (0 : Int)), (by decide : (0 : Int) ≤ (9 : Int)), (by decide : (-1 : Int) ≤ 9), .inl rfl⟩⟩
 ·
  rename_i h1; rw [if_neg h1]
  split at h
  · rename_i h1; rw [if_pos h1]; exact ⟨h, fun _ => ⟨by have := nx_pos (s := s) (by omega); dsimp only; omega, (by decide : (0 : Int) ≤ (1 : Int)), (by decide : (1 : Int) ≤ (9 : Int)), (by decide : (-1 : Int) ≤ 9), .inl rfl⟩⟩
  ·
   rename_i h1; rw [if_neg h1]
   split at h
   · rename_i h1; rw [if_pos h1]; exact ⟨h, fun _ => ⟨by have := nx_pos (s := s) (by omega); dsimp only; omega, (by decide : (0 : Int) ≤ 0), (by decide : (0 : Int) ≤ 9), (by decide : (1 : Int) ≤ 9), .inr (by decide : (0 : Int) ≤ 1)⟩⟩
   ·
    rename_i h1; rw [if_neg h1]
    split at h
    ·
     rename_i h1; rw [if_pos h1]
     have q1 := must_good h
     have q0 := dig_good (s := s.tail) (b := b)
     have q2 : (digM s.tail b).2.2 = false := by
      have := q1.1
      unfold mostM at this
      split at this
      ·
       split at this
       · exact this
       · simp only [Bool.or_eq_false_iff] at this; exact (dig_good this.1).1
      · exact this
     have q3 := dig_good q2
     have q4 := most_good q3.2 q1.1
     refine ⟨q3.1, fun _ => ⟨?_, q3.2.1, q3.2.2, q4.2⟩⟩
     have l1 := (must_le 125 (mostM (digM s.tail b).1 (digM s.tail b).2.1 (digM s.tail b).2.2).2.1 (mostM (digM s.tail b).1 (digM s.tail b).2.1 (digM s.tail b).2.2).2.2).length_le
     have l2 := (most_le (digM s.tail b).1 (digM s.tail b).2.1 (digM s.tail b).2.2).length_le
     have l3 := (dig_le s.tail b).length_le
     have := nx_pos (s := s) (by omega)
     dsimp only; omega
    · rename_i h1; rw [if_neg h1]; exact ⟨h, fun e => by cases e⟩
theorem mem_good {s : List Int} {b : Bool} (hs : okS s) (h : (memM s b).2.2 = false) : b = false ∧ signB (memM s b).1 = true := by
 have h1 := tk_good (mem_bad h)
 refine ⟨h1.2.1, ?_⟩
 unfold memM at h ⊢
 split at h
 ·
  rename_i e
  rw [if_pos e]
  have h2 := tk_good h
  rw [h2.2.2.1]
  exact (hs.sfx (tk_le s b)).nx h2.1
 ·
  rename_i e
  rw [if_neg e, h1.2.2.1]
  exact hs.nx h1.1
theorem hi_good {m : Rd Int} (hs : okS m.2.1) (hm : signB m.1 = true) (h : (hiM m).2.2 = false) : signB (hiM m).1 = true := by
 unfold hiM at h ⊢
 split at h
 ·
  rename_i e
  rw [if_pos e]
  exact (mem_good (hs.sfx (tk_le _ _)) h).2
 ·
  rename_i e
  rw [if_neg e]; exact hm
theorem setL_bad : ∀ {f : Nat} {l : List (Int × Int)} {s : List Int} {b : Bool}, (setL f l s b).2.2 = false → b = false := by
 intro f
 cases f with
 | zero => intro l s b h; exact h
 | succ f =>
  intro l s b h
  unfold setL at h
  split at h
  · rename_i e; exact e.1
  · exact h
theorem setL_good : ∀ {f : Nat} {l : List (Int × Int)} {s : List Int} {b : Bool}, okS s → (setL f l s b).2.2 = false → l.all rangedB = true → (setL f l s b).1.all rangedB = true := by
 intro f
 induction f with
 | zero => intro l s b _ _ h; exact h
 | succ f ih =>
  intro l s b hs h hl
  unfold setL at h ⊢
  split at h
  ·
   rename_i e
   rw [if_pos e]
   have hb := setL_bad h
   simp only [Bool.or_eq_false_iff, decide_eq_false_iff_not] at hb
   have hm := mem_good hs (hi_bad hb.1)
   have hs1 := hs.sfx (mem_le s b)
   refine ih (hs1.sfx (hi_le _)) h ?_
   rw [List.all_append, hl, Bool.true_and, List.all_cons, List.all_nil, Bool.and_true]
   simp only [rangedB, hm.2, hi_good hs1 hm.2 hb.1, Bool.true_and, decide_eq_true_eq]
   omega
  ·
   rename_i e
   rw [if_neg e]; exact hl
theorem may_set {l : List (Int × Int)} {no : Bool} (h : l.all rangedB = true) (h0 : l.length ≠ 0 ∨ no = true) : mayR (.mk 2 l no [] 0 0) = true := by
 have : 0 < l.length ∨ no = true := h0.imp (fun k => by omega) id
 simp only [mayR, mayRL, locB, bareB, oneB, h, Bool.true_and, Bool.and_true, if_pos, decide_true, Bool.true_or, List.length_nil, Bool.or_true, Int.natCast_pos]
 rcases this with k | k <;> simp [k]
theorem size_nil (k : Int) (l : List (Int × Int)) (no : Bool) (mn mx : Int) : size (.mk k l no [] mn mx) = 1 := by simp [size, sizeL]
theorem may_lit {r : Int} (h : signB r = true) : mayR (litN r) = true := may_set (by simp [rangedB, h]) (.inl (by simp))
def Good (X : Rdr) : Prop := ∀ s b, okS s → (X s b).2.2 = false → b = false ∧ mayR (X s b).1 = true ∧ size (X s b).1 + 2 * (X s b).2.1.length + 1 ≤ 2 * s.length
theorem setM_good {s : List Int} {b : Bool} (hs : okS s) (h : (setM s b).2.2 = false) : b = false ∧ mayR (setM s b).1 = true ∧ size (setM s b).1 = 1 := by
 unfold setM at h ⊢
 dsimp only at h ⊢
 simp only [Bool.or_eq_false_iff, decide_eq_false_iff_not] at h
 have h1 := (must_good h.1).1
 have h2 := setL_bad h1
 exact ⟨h2, may_set (setL_good (hs.sfx (is_le _ _)) h1 rfl) (.inl h.2), size_nil _ _ _ _ _⟩
theorem atom_good {alt : Rdr} (hl : Shr alt) (h : Good alt) : Good (atomM alt) := by
 intro s b hs hb
 have key : (tkM s b).2.2 = false := by
  unfold atomM at hb
  dsimp only at hb
  split at hb
  · exact (h _ _ (hs.sfx (tk_le s b)) (must_good hb).1).1
  ·
   split at hb
   · exact hb
   ·
    split at hb
    · exact hb
    ·
     split at hb
     · exact hb
     ·
      split at hb
      · exact (tk_bad hb).2
      ·
       split at hb
       · exact (setM_good (hs.sfx (tk_le s b)) hb).1
       · simp only [Bool.or_eq_false_iff] at hb; exact hb.1
 obtain ⟨t1, t2, t3, t4⟩ := tk_good key
 refine ⟨t2, ?_⟩
 unfold atomM at hb ⊢
 rw [t3] at hb ⊢
 dsimp only at hb ⊢
 have hs1 := hs.tl
 split at hb
 ·
  rename_i e
  rw [if_pos e]
  have m1 := must_good hb
  have g := h _ _ hs1 m1.1
  have ml := (must_le 41 (alt s.tail false).2.1 (alt s.tail false).2.2).length_le
  exact ⟨g.2.1, by dsimp only; omega⟩
 ·
  rename_i e
  rw [if_neg e]
  split at hb
  ·
   rename_i e
   rw [if_pos e]
   exact ⟨may_set rfl (.inr rfl), by rw [size_nil]; dsimp only; omega⟩
  ·
   rename_i e
   rw [if_neg e]
   split at hb
   ·
    rename_i e
    rw [if_pos e]
    exact ⟨(by decide : mayR (.mk 6 [] false [] 0 0) = true), by rw [size_nil]; dsimp only; omega⟩
   ·
    rename_i e
    rw [if_neg e]
    split at hb
    ·
     rename_i e
     rw [if_pos e]
     exact ⟨(by decide : mayR (.mk 7 [] false [] 0 0) = true), by rw [size_nil]; dsimp only; omega⟩
    ·
     rename_i e
     rw [if_neg e]
     split at hb
     ·
      rename_i e
      rw [if_pos e]
      obtain ⟨u1, u2, u3, u4⟩ := tk_good hb
      rw [u3]
      exact ⟨may_lit (hs1.nx u1), by rw [litN, size_nil]; dsimp only; omega⟩
     ·
      rename_i e
      rw [if_neg e]
      split at hb
      ·
       rename_i e
       rw [if_pos e]
       have g := setM_good hs1 hb
       have gl := (setM_le s.tail false).length_le
       exact ⟨g.2.1, by rw [g.2.2]; omega⟩
      ·
       rename_i e
       rw [if_neg e]
       exact ⟨may_lit (hs.nx t1), by rw [litN, size_nil]; dsimp only; omega⟩
theorem piece_good {atom : Rdr} (hl : Shr atom) (h : Good atom) : Good (pieceM atom) := by
 intro s b hs hb
 unfold pieceM at hb ⊢
 dsimp only at hb ⊢
 split at hb
 ·
  rename_i e
  rw [if_pos e]
  simp only [Bool.or_eq_false_iff] at hb
  have r := rep_good hb.1
  have g := h s b hs r.1
  have r2 := r.2 e
  refine ⟨g.1, ?_, ?_⟩
  ·
   simp only [mayR, mayRL, g.2.1, locB, bareB, oneB, Bool.true_and, Bool.and_true, List.length_nil, List.length_cons, decide_true, Bool.true_or, Bool.or_true, Int.reduceEq, reduceIte, or_self, decide_eq_true r2.2.1, decide_eq_true r2.2.2.1, decide_eq_true r2.2.2.2.1]
   rcases r2.2.2.2.2 with k | k <;> simp [k]
  · rw [size]; simp only [sizeL]; omega
 ·
  rename_i e
  rw [if_neg e]
  have r := rep_good hb
  have g := h s b hs r.1
  have l := (rep_le (atom s b).2.1 (atom s b).2.2).length_le
  exact ⟨g.1, g.2.1, by dsimp only; omega⟩
theorem mayRL_snoc : ∀ {ks : List Nd} {n : Nd}, mayRL ks = true → mayR n = true → mayRL (ks ++ [n]) = true
 | [], n, _, h => by simp [mayRL, h]
 | k :: ks, n, h, hn => by
  rw [mayRL, Bool.and_eq_true] at h
  rw [List.cons_append, mayRL, h.1, mayRL_snoc h.2 hn]; rfl
theorem sizeL_snoc : ∀ (ks : List Nd) (n : Nd), sizeL (ks ++ [n]) = sizeL ks + size n
 | [], n => by simp [sizeL]
 | k :: ks, n => by rw [List.cons_append, sizeL, sizeL_snoc ks n, sizeL]; omega
theorem rowL_good {piece : Rdr} (hl : Shr piece) (h : Good piece) : ∀ (f : Nat) (ks : List Nd) (s : List Int) (b : Bool), okS s → (rowL piece f ks s b).2.2 = false → b = false ∧ (mayRL ks = true → mayRL (rowL piece f ks s b).1 = true) ∧
  sizeL (rowL piece f ks s b).1 + 2 * (rowL piece f ks s b).2.1.length + (rowL piece f ks s b).1.length ≤ sizeL ks + 2 * s.length + ks.length := by
 intro f
 induction f with
 | zero => intro ks s b _ hb; exact ⟨hb, fun h => h, Nat.le_refl _⟩
 | succ f ih =>
  intro ks s b hs hb
  unfold rowL at hb ⊢
  split at hb
  ·
   rename_i e
   rw [if_pos e]
   obtain ⟨i1, i2, i3⟩ := ih _ _ _ (hs.sfx (hl s b)) hb
   have g := h s b hs i1
   refine ⟨e.1, fun k => i2 (mayRL_snoc k g.2.1), ?_⟩
   rw [sizeL_snoc, List.length_append, List.length_singleton] at i3
   omega
  ·
   rename_i e
   rw [if_neg e]; exact ⟨hb, fun h => h, Nat.le_refl _⟩
theorem of_good {k : Int} {ks : List Nd} (hk : k = 3 ∨ k = 4) (h0 : ¬ ks.length = 0) (h : mayRL ks = true) : mayR (ofN k ks) = true ∧ size (ofN k ks) + 1 ≤ sizeL ks + ks.length := by
 unfold ofN
 split
 ·
  rename_i e
  cases ks with
  | nil => simp at e
  | cons n ns =>
   have : ns = [] := List.length_eq_zero_iff.1 (by simpa using e)
   subst this
   simp only [mayRL, Bool.and_true] at h
   exact ⟨h, by simp [sizeL]⟩
 ·
  have h2 : (2 : Int) ≤ (ks.length : Nat) := by omega
  refine ⟨?_, by rw [size]; omega⟩
  rcases hk with rfl | rfl <;> simp only [mayR, h, locB, bareB, oneB, Bool.true_and, Bool.and_true, List.length_nil, decide_true, Bool.true_or, Bool.or_true, Int.reduceEq, reduceIte, or_self, or_true, true_or, decide_eq_true h2, Bool.or_self, Bool.not_false, Int.natCast_zero, Int.ofNat_zero] <;> simp
theorem row_good {piece : Rdr} (hl : Shr piece) (h : Good piece) : Good (rowM piece) := by
 intro s b hs hb
 unfold rowM at hb ⊢
 dsimp only at hb ⊢
 split at hb
 · cases hb
 ·
  rename_i e
  rw [if_neg e]
  have g := rowL_good hl h _ _ _ _ hs hb
  have o := of_good (.inl rfl) e (g.2.1 rfl)
  refine ⟨g.1, o.1, ?_⟩
  have := g.2.2
  simp only [sizeL, List.length_nil] at this
  have := o.2
  dsimp only; omega
theorem altL_good {row : Rdr} (hl : Shr row) (h : Good row) : ∀ (f : Nat) (ks : List Nd) (s : List Int) (b : Bool), okS s → (altL row f ks s b).2.2 = false → b = false ∧ (mayRL ks = true → mayRL (altL row f ks s b).1 = true) ∧
  sizeL (altL row f ks s b).1 + 2 * (altL row f ks s b).2.1.length + (altL row f ks s b).1.length ≤ sizeL ks + 2 * s.length + ks.length ∧ ks.length ≤ (altL row f ks s b).1.length := by
 intro f
 induction f with
 | zero => intro ks s b _ hb; exact ⟨hb, fun h => h, Nat.le_refl _, Nat.le_refl _⟩
 | succ f ih =>
  intro ks s b hs hb
  unfold altL at hb ⊢
  split at hb
  ·
   rename_i e
   rw [if_pos e]
   obtain ⟨i1, i2, i3, i4⟩ := ih _ _ _ (hs.tl.sfx (hl s.tail b)) hb
   have g := h s.tail b hs.tl i1
   have := nx_pos (s := s) (by omega)
   refine ⟨e.1, fun k => i2 (mayRL_snoc k g.2.1), ?_, ?_⟩
   ·
    rw [sizeL_snoc, List.length_append, List.length_singleton] at i3
    omega
   · rw [List.length_append, List.length_singleton] at i4; omega
  ·
   rename_i e
   rw [if_neg e]; exact ⟨hb, fun h => h, Nat.le_refl _, Nat.le_refl _⟩
theorem alt_good {row : Rdr} (hl : Shr row) (h : Good row) : Good (altM row) := by
 intro s b hs hb
 unfold altM at hb ⊢
 dsimp only at hb ⊢
 have g := altL_good hl h _ _ _ _ (hs.sfx (hl s b)) hb
 have r := h s b hs g.1
 have o := of_good (k := 4) (.inr rfl) (by have := g.2.2.2; simp only [List.length_singleton] at this; omega) (g.2.1 (by simp [mayRL, r.2.1]))
 refine ⟨r.1, o.1, ?_⟩
 have := g.2.2.1
 simp only [sizeL, List.length_singleton] at this
 have := o.2
 omega
theorem altF_good : ∀ f, Good (altF f)
 | 0 => fun s b _ h => by cases h
 | f + 1 => alt_good (rowF_le f) (row_good (pieceF_le f) (piece_good (atomF_le f) (atom_good (altF_le f) (altF_good f))))
end
end Go.Vai

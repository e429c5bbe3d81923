/-
  What is proved here: stars of stars of one sign match just the rows of that sign. No conditions. (No program in sight.) What is proved here: the texts of nested stars, and what they are read as (part EMa). No conditions.
-/
import Derived.Test.YtiebldaihnbkmaaGreatDoorNQ
import Derived.Test.YtiebldaihnbkmaaGreatDoorUG
import Derived.Test.YtiebldaihnbkmaaGreatDoorRM
set_option linter.unusedVariables false
set_option linter.unusedSimpArgs false
namespace Go.Vai
open Go.Nfa
def nest : Nat → Nd
 | 0 => .mk 5 [] false [.mk 2 [(97, 97)] false [] 0 0] 0 (-1)
 | d + 1 => .mk 5 [] false [nest d] 0 (-1)
def Run (l : List Int) (i j : Nat) : Prop := i ≤ j ∧ ∀ x, i ≤ x → x < j → l[x]? = some 97
theorem Run.refl (l : List Int) (i : Nat) : Run l i i := ⟨Nat.le_refl _, fun x h1 h2 => by omega⟩
theorem Run.trans {l : List Int} {i m j : Nat} (h : Run l i m) (k : Run l m j) : Run l i j := ⟨Nat.le_trans h.1 k.1, fun x h1 h2 => by
 by_cases hx : x < m
 · exact h.2 x h1 hx
 · exact k.2 x (by omega) h2⟩
theorem times_run {l : List Int} {R : Nat → Nat → Prop} (h : ∀ i j, R i j → Run l i j) : ∀ (k : Nat) {i j : Nat}, Times R k i j → Run l i j := by
 intro k
 induction k with
 | zero => intro i j e; subst e; exact Run.refl l _
 | succ k ih => intro i j ⟨m, h1, h2⟩; exact (h _ _ h1).trans (ih h2)
theorem star_iff {l : List Int} {n : Nd} {i j : Nat} : M K14 l (.mk 5 [] false [n] 0 (-1)) i j ↔ ∃ k, Times (M K14 l n) k i j := by
 rw [M_eq]
 constructor
 ·
  rintro (h | h | h | h | h | ⟨_, k, _, _, h⟩)
  · exact absurd h.1 (by decide)
  · exact absurd h.1 (by decide)
  · exact absurd h.1 (by decide)
  · exact absurd h.1 (by decide)
  · exact absurd h.1 (by decide)
  · exact ⟨k, h⟩
 ·
  rintro ⟨k, h⟩
  exact .inr (.inr (.inr (.inr (.inr ⟨rfl, k, by omega, .inl (by decide), h⟩))))
theorem one_iff {l : List Int} {i j : Nat} : M K14 l (.mk 2 [(97, 97)] false [] 0 0) i j ↔ j = i + 1 ∧ l[i]? = some 97 := by
 rw [M_eq]
 constructor
 ·
  rintro (⟨_, h1, r, h2, h3⟩ | h | h | h | h | h)
  ·
   refine ⟨h1, ?_⟩
   have : r = 97 := by
    simp only [inSet, List.any_cons, List.any_nil, Bool.or_false, Bool.not_false] at h3
    split at h3
    · rename_i h; simp only [Bool.and_eq_true, decide_eq_true_eq] at h; omega
    · cases h3
   rw [h2, this]
  · exact absurd h.1 (by decide)
  · exact absurd h.1 (by decide)
  · exact absurd h.1 (by decide)
  · exact absurd h.1 (by decide)
  · exact absurd h.1 (by decide)
 ·
  rintro ⟨h1, h2⟩
  exact .inl ⟨rfl, h1, 97, h2, by decide⟩
theorem run_times {l : List Int} : ∀ (k : Nat) {i j : Nat}, j = i + k → Run l i j → Times (M K14 l (.mk 2 [(97, 97)] false [] 0 0)) k i j := by
 intro k
 induction k with
 | zero => intro i j e _; exact e.symm
 | succ k ih =>
  intro i j e h
  exact ⟨i + 1, one_iff.2 ⟨rfl, h.2 i (Nat.le_refl _) (by omega)⟩, ih (by omega) ⟨by omega, fun x h1 h2 => h.2 x (by omega) h2⟩⟩
theorem nest_iff {l : List Int} : ∀ (d : Nat) {i j : Nat}, M K14 l (nest d) i j ↔ Run l i j := by
 intro d
 induction d with
 | zero =>
  intro i j
  rw [nest, star_iff]
  constructor
  ·
   rintro ⟨k, h⟩
   refine times_run (fun i j e => ?_) k h
   obtain ⟨rfl, h2⟩ := one_iff.1 e
   exact ⟨by omega, fun x h1 h3 => by rw [show x = i by omega]; exact h2⟩
  ·
   intro h
   exact ⟨j - i, run_times (j - i) (by have := h.1; omega) h⟩
 | succ d ih =>
  intro i j
  rw [nest, star_iff]
  constructor
  ·
   rintro ⟨k, h⟩
   exact times_run (fun i j e => ih.1 e) k h
  ·
   intro h
   exact ⟨1, j, ih.2 h, rfl⟩
theorem nest_ends {l : List Int} {k : Nat} (d : Nat) (hl : allLoc locB (nest d)) (hk : k ≤ l.length) (h1 : ∀ x, x < k → l[x]? = some 97) (h2 : k = l.length ∨ l[k]? ≠ some 97) : (endsR l (nest d) ((0 : Nat) : Int)).length = k + 1 := by
 have e : List.range (k + 1) = endsR l (nest d) ((0 : Nat) : Int) := by
  rw [endsR_in (by omega), Int.toNat_natCast]
  refine sorted_ext List.pairwise_lt_range (idxs_srt _) fun j => ?_
  rw [List.mem_range, mem_idxs, marks_mem K14 l (loc_ok _ hl) (Nat.zero_le _), nest_iff]
  constructor
  ·
   intro h
   exact ⟨Nat.zero_le _, fun x _ hx => h1 x (by omega)⟩
  ·
   intro h
   by_cases hj : j < k + 1
   · exact hj
   ·
    have := h.2 k (Nat.zero_le _) (by omega)
    rcases h2 with rfl | h2
    · rw [List.getElem?_eq_none (Nat.le_refl _)] at this; cases this
    · exact absurd this h2
 rw [← e, List.length_range]
end Go.Vai
set_option maxRecDepth 100000
namespace Go.Vai
open Go.Nfa
def reOf : Nat → ByteArray
 | 0 => ⟨#[97, 42]⟩
 | d + 1 => ((⟨#[40]⟩ : ByteArray) ++ reOf d) ++ (⟨#[41, 42]⟩ : ByteArray)
theorem reOf_size : ∀ d, (reOf d).size = 2 + 3 * d
 | 0 => rfl
 | d + 1 => by
  rw [reOf, ByteArray.size_append, ByteArray.size_append, reOf_size d]
  show 1 + (2 + 3 * d) + 2 = _
  omega
theorem cat1 {i : Nat} (h : i < 10) : (⟨#[40]⟩ : ByteArray).size + (reOf i).size ≤ 1000000000 := by rw [reOf_size]; show 1 + _ ≤ _; omega
theorem cat2 {i : Nat} (h : i < 10) : ((⟨#[40]⟩ : ByteArray) ++ reOf i).size + (⟨#[41, 42]⟩ : ByteArray).size ≤ 1000000000 := by rw [ByteArray.size_append, reOf_size]; show 1 + _ + 2 ≤ _; omega
theorem parse_nest {d : Nat} (h : d < 5) : parseM (reOf d) = some (nest d) := by
 rcases (by omega : d = 0 ∨ d = 1 ∨ d = 2 ∨ d = 3 ∨ d = 4) with rfl | rfl | rfl | rfl | rfl <;> kernel_rfl
theorem nest_small {d : Nat} (h : d < 5) : Nfa.cnt locB (nest d) 1 ≤ 2000 ∧ wp K14 20001 (nest d) ≤ 20000 := by
 rcases (by omega : d = 0 ∨ d = 1 ∨ d = 2 ∨ d = 3 ∨ d = 4) with rfl | rfl | rfl | rfl | rfl <;> exact ⟨Nat.le_of_ble_eq_true (by kernel_rfl), Nat.le_of_ble_eq_true (by kernel_rfl)⟩
theorem run_next {l : List Int} {k : Nat} (h1 : ∀ x, x < k → l[x]? = some 97) (hk : k < l.length) (hv : l.getD k 0 = 97) : ∀ x, x < k + 1 → l[x]? = some 97 := fun x hx => by
 by_cases h : x < k
 · exact h1 x h
 · rw [show x = k by omega, ← hv]; exact getD_some hk
theorem run_end {l : List Int} {k : Nat} (hk : k < l.length) (hv : ¬ l.getD k 0 = 97) : l[k]? ≠ some 97 := fun e => hv (getD_of e)
end Go.Vai

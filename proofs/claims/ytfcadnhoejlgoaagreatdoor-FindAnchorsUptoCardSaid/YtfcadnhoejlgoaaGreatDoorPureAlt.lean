/-
  What is proved here: places that are marked one by one; an alternation's ends, and a row's, out of their parts' ends; patterns of short texts are small. the longest match at a place, the next one, the last one, how many there are one behind the other. No conditions but those that the theorems state.
-/
import Derived.Test.YtfcadnhoejlgoaaGreatDoorNQ
import Derived.Test.YtfcadnhoejlgoaaGreatDoorPGa
set_option linter.unusedVariables false
set_option linter.unusedSimpArgs false
namespace Go.Vai
open Go.Nfa Go.Utf
theorem ends_memR {l : List Int} {N : Nd} {a j : Nat} (hl : allLoc locB N) (ha : a ≤ l.length) : j ∈ endsR l N ((a : Nat) : Int) ↔ M K14 l N a j := by
 rw [endsR_in (by omega), Int.toNat_natCast, mem_idxs, marks_mem K14 l (loc_ok N hl) ha]
theorem ends_srt (l : List Int) (N : Nd) (a : Int) : (endsR l N a).Pairwise (· < ·) := by
 unfold endsR
 split
 · exact List.Pairwise.nil
 · exact idxs_srt _
theorem getD_mem {xs : List Nat} {i : Nat} (h : i < xs.length) : xs.getD i 0 ∈ xs := by
 rw [List.getD_eq_getElem?_getD, List.getElem?_eq_getElem h]; exact List.getElem_mem h
end Go.Vai
namespace Go.Vai
open Go.Nfa Go.Utf
def atR (l : List Int) (N : Nd) (a : Int) : Int := if (endsR l N a).length = 0 then 0 else (((endsR l N a).getD ((endsR l N a).length - 1) 0 : Nat) : Int) - a
theorem endsR_rng {l : List Int} {N : Nd} {a : Int} (h : ¬ (endsR l N a).length = 0) : 0 ≤ a ∧ a ≤ (l.length : Int) := by
 by_cases e : a < 0 ∨ (l.length : Int) < a
 · rw [endsR_out e] at h; simp at h
 · omega
theorem atR_none {l : List Int} {N : Nd} {a : Int} (h : (endsR l N a).length = 0) : atR l N a = 0 := if_pos h
theorem atR_some {l : List Int} {N : Nd} {a : Int} {x : Nat} (h : ¬ (endsR l N a).length = 0) (hx : x = (endsR l N a).length - 1) : atR l N a = (((endsR l N a).getD x 0 : Nat) : Int) - a := by subst hx; exact if_neg h
theorem last_bd {l : List Int} {N : Nd} {a : Nat} {x : Nat} (hl : allLoc locB N) (ha : a ≤ l.length) (hx : x < (endsR l N ((a : Nat) : Int)).length) : a ≤ (endsR l N ((a : Nat) : Int)).getD x 0 ∧ (endsR l N ((a : Nat) : Int)).getD x 0 ≤ l.length := by
 have hm := getD_mem hx
 exact M_range K14 l (loc_ok N hl) ha ((ends_memR hl ha).1 hm)
theorem last_bdI {l : List Int} {N : Nd} {a : Int} {x : Nat} (hl : allLoc locB N) (hx : x < (endsR l N a).length) : 0 ≤ a ∧ a ≤ (((endsR l N a).getD x 0 : Nat) : Int) ∧ (((endsR l N a).getD x 0 : Nat) : Int) ≤ (l.length : Int) := by
 obtain ⟨h1, h2⟩ := endsR_rng (l := l) (N := N) (a := a) (by omega)
 obtain ⟨b, rfl⟩ : ∃ b : Nat, a = (b : Int) := ⟨a.toNat, by omega⟩
 have := last_bd hl (by omega) hx
 omega
abbrev Hit3 := Int × Int × Bool
def nextF (l : List Int) (N : Nd) : Nat → Nat → Hit3
 | 0, _ => (0, 0, false)
 | d + 1, i => if 0 < atR l N ((i : Nat) : Int) then ((i : Int), atR l N ((i : Nat) : Int), true) else nextF l N d (i + 1)
def nextR (l : List Int) (N : Nd) (a : Int) : Hit3 := nextF l N (l.length - (max a 0).toNat) (max a 0).toNat
theorem nextF_end {l : List Int} {N : Nd} {i : Nat} (h : ¬ i < l.length) : nextF l N (l.length - i) i = (0, 0, false) := by rw [show l.length - i = 0 by omega, nextF]
theorem nextF_hit {l : List Int} {N : Nd} {i : Nat} (h : i < l.length) (hp : 0 < atR l N ((i : Nat) : Int)) : nextF l N (l.length - i) i = ((i : Int), atR l N ((i : Nat) : Int), true) := by
 rw [show l.length - i = (l.length - (i + 1)) + 1 by omega, nextF, if_pos hp]
theorem nextF_go {l : List Int} {N : Nd} {i : Nat} (h : i < l.length) (hp : ¬ 0 < atR l N ((i : Nat) : Int)) : nextF l N (l.length - i) i = nextF l N (l.length - (i + 1)) (i + 1) := by
 rw [show l.length - i = (l.length - (i + 1)) + 1 by omega, nextF, if_neg hp]
def lastF (l : List Int) (N : Nd) : Nat → Hit3
 | 0 => (0, 0, false)
 | i + 1 => if 0 < atR l N ((i : Nat) : Int) then ((i : Int), atR l N ((i : Nat) : Int), true) else lastF l N i
def lastR (l : List Int) (N : Nd) (a : Int) : Hit3 := lastF l N (min (max a 0) (l.length : Int)).toNat
theorem lastF_hit {l : List Int} {N : Nd} {i : Nat} (hp : 0 < atR l N ((i : Nat) : Int)) : lastF l N (i + 1) = ((i : Int), atR l N ((i : Nat) : Int), true) := by rw [lastF, if_pos hp]
theorem lastF_go {l : List Int} {N : Nd} {i : Nat} (hp : ¬ 0 < atR l N ((i : Nat) : Int)) : lastF l N (i + 1) = lastF l N i := by rw [lastF, if_neg hp]
abbrev anyN : Nd := .mk 2 [] true [] 0 0
abbrev begN : Nd := .mk 6 [] false [] 0 0
abbrev finN : Nd := .mk 7 [] false [] 0 0
abbrev p1N : Nd := .mk 3 [] false [begN, anyN] 0 0
abbrev p2N : Nd := .mk 3 [] false [anyN, finN] 0 0
abbrev p3N : Nd := .mk 3 [] false [begN, .mk 5 [] false [anyN] 0 (-1), finN] 0 0
theorem any_iff {l : List Int} {i j : Nat} : M K14 l anyN i j ↔ j = i + 1 ∧ i < l.length := by
 rw [M_eq]
 constructor
 ·
  rintro (⟨_, h1, r, h2, _⟩ | h | h | h | h | h)
  · exact ⟨h1, (List.getElem?_eq_some_iff.1 h2).1⟩
  all_goals exact absurd h.1 (by decide)
 ·
  rintro ⟨h1, h2⟩
  exact .inl ⟨rfl, h1, l[i], List.getElem?_eq_getElem h2, rfl⟩
theorem beg_iff {l : List Int} {i j : Nat} : M K14 l begN i j ↔ i = 0 ∧ j = i := by
 rw [M_eq]
 constructor
 ·
  rintro (h | h | h | h | h | h)
  · exact absurd h.1 (by decide)
  · exact h.2
  all_goals exact absurd h.1 (by decide)
 · intro h; exact .inr (.inl ⟨rfl, h⟩)
theorem fin_iff {l : List Int} {i j : Nat} : M K14 l finN i j ↔ i = l.length ∧ j = i := by
 rw [M_eq]
 constructor
 ·
  rintro (h | h | h | h | h | h)
  · exact absurd h.1 (by decide)
  · exact absurd h.1 (by decide)
  · exact h.2
  all_goals exact absurd h.1 (by decide)
 · intro h; exact .inr (.inr (.inl ⟨rfl, h⟩))
theorem cat_iff {l : List Int} {ks : List Nd} {i j : Nat} : M K14 l (.mk 3 [] false ks 0 0) i j ↔ MCat K14 l ks i j := by
 rw [M_eq]
 constructor
 ·
  rintro (h | h | h | h | h | h)
  · exact absurd h.1 (by decide)
  · exact absurd h.1 (by decide)
  · exact absurd h.1 (by decide)
  · exact h.2
  all_goals exact absurd h.1 (by decide)
 · intro h; exact .inr (.inr (.inr (.inl ⟨rfl, h⟩)))
theorem rep_any {l : List Int} {i j : Nat} : M K14 l (.mk 5 [] false [anyN] 0 (-1)) i j ↔ i ≤ j ∧ (j ≤ l.length ∨ i = j) := by
 have key : ∀ (k : Nat) {i j : Nat}, Times (M K14 l anyN) k i j ↔ j = i + k ∧ (k = 0 ∨ j ≤ l.length) := by
  intro k
  induction k with
  | zero => intro i j; exact ⟨fun h => ⟨h.symm, .inl rfl⟩, fun h => h.1.symm⟩
  | succ k ih =>
   intro i j
   simp only [Times]
   constructor
   ·
    rintro ⟨m, h1, h2⟩
    have := any_iff.1 h1
    have := ih.1 h2
    omega
   ·
    rintro ⟨h1, h2⟩
    exact ⟨i + 1, any_iff.2 ⟨rfl, by omega⟩, ih.2 (by omega)⟩
 rw [M_eq]
 constructor
 ·
  rintro (h | h | h | h | h | ⟨_, k, _, _, h⟩)
  iterate 5 exact absurd h.1 (by decide)
  have := (key k).1 h
  omega
 ·
  rintro ⟨h1, h2⟩
  exact .inr (.inr (.inr (.inr (.inr ⟨rfl, j - i, by omega, .inl (by decide), (key _).2 (by omega)⟩))))
theorem p1_iff {l : List Int} {i j : Nat} : M K14 l p1N i j ↔ i = 0 ∧ j = 1 ∧ 0 < l.length := by
 rw [cat_iff]
 simp only [MCat, beg_iff, any_iff]
 constructor
 · rintro ⟨m, ⟨rfl, rfl⟩, m2, ⟨rfl, h⟩, rfl⟩; exact ⟨rfl, rfl, h⟩
 · rintro ⟨rfl, rfl, h⟩; exact ⟨0, ⟨rfl, rfl⟩, 1, ⟨rfl, h⟩, rfl⟩
theorem p2_iff {l : List Int} {i j : Nat} : M K14 l p2N i j ↔ i + 1 = l.length ∧ j = l.length := by
 rw [cat_iff]
 simp only [MCat, fin_iff, any_iff]
 constructor
 · rintro ⟨m, ⟨rfl, h⟩, m2, ⟨h1, rfl⟩, rfl⟩; omega
 · rintro ⟨h, rfl⟩; exact ⟨i + 1, ⟨rfl, by omega⟩, l.length, ⟨h, h.symm⟩, rfl⟩
theorem p3_iff {l : List Int} {i j : Nat} : M K14 l p3N i j ↔ i = 0 ∧ j = l.length := by
 rw [cat_iff]
 simp only [MCat, fin_iff, beg_iff, rep_any]
 constructor
 · rintro ⟨m, ⟨rfl, rfl⟩, m2, h, m3, ⟨h1, rfl⟩, rfl⟩; exact ⟨rfl, h1⟩
 · rintro ⟨rfl, rfl⟩; exact ⟨0, ⟨rfl, rfl⟩, l.length, ⟨Nat.zero_le _, .inl (Nat.le_refl _)⟩, l.length, ⟨rfl, rfl⟩, rfl⟩
theorem ends_none {l : List Int} {N : Nd} {a : Nat} (hl : allLoc locB N) (ha : a ≤ l.length) (h : ∀ j, ¬ M K14 l N a j) : endsR l N ((a : Nat) : Int) = [] := by
 refine List.eq_nil_iff_forall_not_mem.2 fun j hj => h j ((ends_memR hl ha).1 hj)
theorem ends_one {l : List Int} {N : Nd} {a b : Nat} (hl : allLoc locB N) (ha : a ≤ l.length) (h : ∀ j, M K14 l N a j ↔ j = b) : endsR l N ((a : Nat) : Int) = [b] := by
 refine sorted_ext (ends_srt _ _ _) (List.pairwise_singleton _ _) fun j => ?_
 rw [ends_memR hl ha, h, List.mem_singleton]
theorem at_none {l : List Int} {N : Nd} {a : Nat} (hl : allLoc locB N) (ha : a ≤ l.length) (h : ∀ j, ¬ M K14 l N a j) : atR l N ((a : Nat) : Int) = 0 := atR_none (by rw [ends_none hl ha h]; rfl)
theorem at_one {l : List Int} {N : Nd} {a b : Nat} (hl : allLoc locB N) (ha : a ≤ l.length) (h : ∀ j, M K14 l N a j ↔ j = b) : atR l N ((a : Nat) : Int) = (b : Int) - (a : Int) := by
 rw [atR_some (by rw [ends_one hl ha h]; simp) rfl, ends_one hl ha h]; rfl
theorem nextF_none {l : List Int} {N : Nd} : ∀ (d a : Nat), (∀ i, a ≤ i → i < a + d → atR l N ((i : Nat) : Int) = 0) → nextF l N d a = (0, 0, false) := by
 intro d
 induction d with
 | zero => intro a _; rfl
 | succ d ih =>
  intro a h
  rw [nextF, if_neg (by rw [h a (by omega) (by omega)]; omega), ih (a + 1) fun i h1 h2 => h i (by omega) (by omega)]
theorem p1_loc : allLoc locB p1N := by simp only [allLoc, allLocL]; exact ⟨rfl, ⟨rfl, trivial⟩, ⟨rfl, trivial⟩, trivial⟩
theorem p2_loc : allLoc locB p2N := by simp only [allLoc, allLocL]; exact ⟨rfl, ⟨rfl, trivial⟩, ⟨rfl, trivial⟩, trivial⟩
theorem p3_loc : allLoc locB p3N := by simp only [allLoc, allLocL]; exact ⟨rfl, ⟨rfl, trivial⟩, ⟨rfl, ⟨rfl, trivial⟩, trivial⟩, ⟨rfl, trivial⟩, trivial⟩
theorem p1_next {l : List Int} (h : 0 < l.length) : nextR l p1N ((0 : Nat) : Int) = (0, 1, true) := by
 have e := at_one (l := l) (N := p1N) (a := 0) (b := 1) p1_loc (Nat.zero_le _) (fun j => by rw [p1_iff]; omega)
 unfold nextR
 rw [show (max ((0 : Nat) : Int) 0).toNat = 0 by omega, nextF_hit (by omega) (by rw [e]; omega), e]; rfl
theorem p1_none {l : List Int} : nextR l p1N ((1 : Nat) : Int) = (0, 0, false) := by
 unfold nextR
 rw [show (max ((1 : Nat) : Int) 0).toNat = 1 by omega]
 exact nextF_none _ _ fun i h1 h2 => at_none p1_loc (by omega) fun j hj => by have := p1_iff.1 hj; omega
theorem p1_nil {l : List Int} (h : l.length = 0) (a : Int) : nextR l p1N a = (0, 0, false) := by unfold nextR; rw [h, Nat.zero_sub]; rfl
theorem p2_nil {l : List Int} (h : l.length = 0) (a : Int) : lastR l p2N a = (0, 0, false) := by unfold lastR; rw [h, show (min (max a 0) ((0 : Nat) : Int)).toNat = 0 by omega]; rfl
theorem p2_last {l : List Int} (h : 0 < l.length) : lastR l p2N ((l.length : Nat) : Int) = ((l.length : Int) - 1, 1, true) := by
 obtain ⟨n, hn⟩ : ∃ n, l.length = n + 1 := ⟨l.length - 1, by omega⟩
 have e := at_one (l := l) (N := p2N) (a := n) (b := n + 1) p2_loc (by omega) (fun j => by rw [p2_iff]; omega)
 unfold lastR
 rw [show (min (max ((l.length : Nat) : Int) 0) (l.length : Int)).toNat = n + 1 by omega, lastF_hit (by rw [e]; omega), e, hn]
 simp only [Prod.mk.injEq]
 exact ⟨by omega, by omega, trivial⟩
theorem p3_at {l : List Int} : atR l p3N ((0 : Nat) : Int) = (l.length : Int) := by
 rw [at_one (l := l) (N := p3N) (a := 0) (b := l.length) p3_loc (Nat.zero_le _) (fun j => by rw [p3_iff]; omega)]; omega
end Go.Vai

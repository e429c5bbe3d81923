/-
  What is proved here: places that are marked one by one; an alternation's ends, and a row's, out of their parts' ends; patterns of short texts are small. the longest match at a place, the next one, the last one, how many there are one behind the other. No conditions but those that the theorems state.
-/
import Derived.Test.YtfcadnhoejlgoaaGreatDoorNQ
import Derived.Test.YtfcadnhoejlgoaaGreatDoorPGa
set_option linter.unusedVariables false
set_option linter.unusedSimpArgs false
namespace Go.Vai
open Go.Nfa Go.Utf
theorem ends_memR {l : List Int} {N : Nd} {a j : Nat} (hl : allLoc locB N) (ha : a ≤ l.length) : j ∈ endsR l N ((a : Nat) : Int) ↔ M K14 l N a j := by
 rw [endsR_in (by omega), Int.toNat_natCast, mem_idxs, marks_mem K14 l (loc_ok N hl) ha]
theorem getD_mem {xs : List Nat} {i : Nat} (h : i < xs.length) : xs.getD i 0 ∈ xs := by
 rw [List.getD_eq_getElem?_getD, List.getElem?_eq_getElem h]; exact List.getElem_mem h
end Go.Vai
namespace Go.Vai
open Go.Nfa Go.Utf
def atR (l : List Int) (N : Nd) (a : Int) : Int := if (endsR l N a).length = 0 then 0 else (((endsR l N a).getD ((endsR l N a).length - 1) 0 : Nat) : Int) - a
theorem endsR_rng {l : List Int} {N : Nd} {a : Int} (h : ¬ (endsR l N a).length = 0) : 0 ≤ a ∧ a ≤ (l.length : Int) := by
 by_cases e : a < 0 ∨ (l.length : Int) < a
 · rw [endsR_out e] at h; simp at h
 · omega
theorem atR_none {l : List Int} {N : Nd} {a : Int} (h : (endsR l N a).length = 0) : atR l N a = 0 := if_pos h
theorem atR_some {l : List Int} {N : Nd} {a : Int} {x : Nat} (h : ¬ (endsR l N a).length = 0) (hx : x = (endsR l N a).length - 1) : atR l N a = (((endsR l N a).getD x 0 : Nat) : Int) - a := by subst hx; exact if_neg h
theorem last_bd {l : List Int} {N : Nd} {a : Nat} {x : Nat} (hl : allLoc locB N) (ha : a ≤ l.length) (hx : x < (endsR l N ((a : Nat) : Int)).length) : a ≤ (endsR l N ((a : Nat) : Int)).getD x 0 ∧ (endsR l N ((a : Nat) : Int)).getD x 0 ≤ l.length := by
 have hm := getD_mem hx
 exact M_range K14 l (loc_ok N hl) ha ((ends_memR hl ha).1 hm)
theorem last_bdI {l : List Int} {N : Nd} {a : Int} {x : Nat} (hl : allLoc locB N) (hx : x < (endsR l N a).length) : 0 ≤ a ∧ a ≤ (((endsR l N a).getD x 0 : Nat) : Int) ∧ (((endsR l N a).getD x 0 : Nat) : Int) ≤ (l.length : Int) := by
 obtain ⟨h1, h2⟩ := endsR_rng (l := l) (N := N) (a := a) (by omega)
 obtain ⟨b, rfl⟩ : ∃ b : Nat, a = (b : Int) := ⟨a.toNat, by omega⟩
 have := last_bd hl (by omega) hx
 omega
theorem atR_bd {l : List Int} {N : Nd} (hl : allLoc locB N) {a : Nat} (ha : a ≤ l.length) : 0 ≤ atR l N ((a : Nat) : Int) ∧ ((a : Nat) : Int) + atR l N ((a : Nat) : Int) ≤ (l.length : Int) := by
 by_cases h : (endsR l N ((a : Nat) : Int)).length = 0
 · rw [atR_none h]; omega
 ·
  rw [atR_some h rfl]
  have := last_bd hl ha (x := (endsR l N ((a : Nat) : Int)).length - 1) (by omega)
  omega
abbrev Hit3 := Int × Int × Bool
def nextF (l : List Int) (N : Nd) : Nat → Nat → Hit3
 | 0, _ => (0, 0, false)
 | d + 1, i => if 0 < atR l N ((i : Nat) : Int) then ((i : Int), atR l N ((i : Nat) : Int), true) else nextF l N d (i + 1)
def nextR (l : List Int) (N : Nd) (a : Int) : Hit3 := nextF l N (l.length - (max a 0).toNat) (max a 0).toNat
theorem nextF_end {l : List Int} {N : Nd} {i : Nat} (h : ¬ i < l.length) : nextF l N (l.length - i) i = (0, 0, false) := by rw [show l.length - i = 0 by omega, nextF]
theorem nextF_hit {l : List Int} {N : Nd} {i : Nat} (h : i < l.length) (hp : 0 < atR l N ((i : Nat) : Int)) : nextF l N (l.length - i) i = ((i : Int), atR l N ((i : Nat) : Int), true) := by
 rw [show l.length - i = (l.length - (i + 1)) + 1 by omega, nextF, if_pos hp]
theorem nextF_go {l : List Int} {N : Nd} {i : Nat} (h : i < l.length) (hp : ¬ 0 < atR l N ((i : Nat) : Int)) : nextF l N (l.length - i) i = nextF l N (l.length - (i + 1)) (i + 1) := by
 rw [show l.length - i = (l.length - (i + 1)) + 1 by omega, nextF, if_neg hp]
inductive Chain (l : List Int) (N : Nd) : Nat → Nat → Prop
 | stop {a : Nat} : l.length ≤ a → Chain l N a 0
 | hit {a n : Nat} : a < l.length → 0 < atR l N ((a : Nat) : Int) → Chain l N (a + (atR l N ((a : Nat) : Int)).toNat) n → Chain l N a (n + 1)
 | skip {a n : Nat} : a < l.length → ¬ 0 < atR l N ((a : Nat) : Int) → Chain l N (a + 1) n → Chain l N a n
theorem Chain.one {l : List Int} {N : Nd} {a n : Nat} (h : Chain l N a n) : ∀ {m : Nat}, Chain l N a m → n = m := by
 induction h with
 | stop h => intro m k; cases k with
  | stop => rfl
  | hit h1 => omega
  | skip h1 => omega
 | hit h1 h2 h3 ih => intro m k; cases k with
  | stop h => omega
  | hit _ _ h => rw [ih h]
  | skip _ h => exact absurd h2 h
 | skip h1 h2 h3 ih => intro m k; cases k with
  | stop h => omega
  | hit _ h _ => exact absurd h h2
  | skip _ _ h => exact ih h
theorem next_chain {l : List Int} {N : Nd} : ∀ (d a : Nat), a + d = l.length → (nextF l N d a = (0, 0, false) ∧ Chain l N a 0) ∨ (∃ i : Nat, a ≤ i ∧ i < l.length ∧ 0 < atR l N ((i : Nat) : Int) ∧ nextF l N d a = ((i : Int), atR l N ((i : Nat) : Int), true) ∧ ∀ n, Chain l N (i + (atR l N ((i : Nat) : Int)).toNat) n → Chain l N a (n + 1)) := by
 intro d
 induction d with
 | zero => intro a h; exact .inl ⟨rfl, .stop (by omega)⟩
 | succ d ih =>
  intro a h
  by_cases hp : 0 < atR l N ((a : Nat) : Int)
  · exact .inr ⟨a, Nat.le_refl _, by omega, hp, by rw [nextF, if_pos hp], fun n k => .hit (by omega) hp k⟩
  ·
   rw [nextF, if_neg hp]
   rcases ih (a + 1) (by omega) with ⟨h1, h2⟩ | ⟨i, h1, h2, h3, h4, h5⟩
   · exact .inl ⟨h1, .skip (by omega) hp h2⟩
   · exact .inr ⟨i, by omega, h2, h3, h4, fun n k => .skip (by omega) hp (h5 n k)⟩
theorem nextR_chain {l : List Int} {N : Nd} {a : Nat} (ha : a ≤ l.length) : (nextR l N ((a : Nat) : Int) = (0, 0, false) ∧ Chain l N a 0) ∨ (∃ i : Nat, a ≤ i ∧ i < l.length ∧ 0 < atR l N ((i : Nat) : Int) ∧ nextR l N ((a : Nat) : Int) = ((i : Int), atR l N ((i : Nat) : Int), true) ∧ ∀ n, Chain l N (i + (atR l N ((i : Nat) : Int)).toNat) n → Chain l N a (n + 1)) := by
 unfold nextR
 rw [show (max ((a : Nat) : Int) 0).toNat = a by omega]
 exact next_chain _ _ (by omega)
end Go.Vai

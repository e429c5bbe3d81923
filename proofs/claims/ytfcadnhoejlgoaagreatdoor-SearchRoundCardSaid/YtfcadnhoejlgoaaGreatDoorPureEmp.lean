/-
  What is proved here: stars of stars of one sign match just the rows of that sign. so many times a sign, at a row of that sign: which places are reached. the texts of repeats, and what they are read as (part ENa). repeats in repeats: their texts, what they are read as, what they weigh (part EWa). what the reader of patterns reads whole it reads just so in front of a closing parenthesis, however  what the reader of patterns reads whole it reads just so in parentheses. a text in parentheses is read as the text is (part EDa). No conditions but those that the theorems state.
-/
import Derived.Test.YtfcadnhoejlgoaaGreatDoorNQ
import Derived.Test.YtfcadnhoejlgoaaGreatDoorUG
import Derived.Test.YtfcadnhoejlgoaaGreatDoorRM
import Derived.Lib.ValidAsc
import Derived.Test.YtfcadnhoejlgoaaGreatDoorPurePar1
import Derived.Test.YtfcadnhoejlgoaaGreatDoorPA
import Derived.Lib.ValidLaws
set_option linter.unusedVariables false
set_option linter.unusedSimpArgs false
namespace Go.Vai
open Go.Nfa
end Go.Vai
namespace Go.Vai
open Go.Nfa
end Go.Vai
set_option maxRecDepth 100000
set_option maxHeartbeats 4000000
namespace Go.Vai
open Go.Nfa
noncomputable section
end
end Go.Vai
set_option maxRecDepth 100000
namespace Go.Vai
open Go.Nfa Go.Utf
noncomputable section
end
end Go.Vai
namespace Go.Vai
open Go.Nfa
def Cl (t:List Int):Prop:=∃ t',t=41::t'
section
variable {t:List Int} (ht:Cl t)
include ht
omit ht in
omit ht in
omit ht in
omit ht in
omit ht in
omit ht in
omit ht in
end
end Go.Vai
namespace Go.Vai
open Go.Nfa
def Bx (X:Rdr):Prop:=∀ s,(X s true).2.2=true
theorem Bx.no {X:Rdr} (h:Bx X):∀ s N s',X s true=(N,s',false)→False:=fun s N s' e=>by have:=h s;rw [e]at this;cases this
end Go.Vai
namespace Go.Vai
open Go.Nfa Go.Utf
noncomputable section
theorem XE5 {a b:Bool}:(bif a then(bif b then true else false)else(bif b then false else true))=decide (a=b):=by cases a<;>cases b<;>rfl
end
end Go.Vai

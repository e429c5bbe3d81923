/-
  What is proved here: patterns as data; what the machine's functions tell of single nodes (part NA). nothing; short names for data that walks tell again and again (part RT). No conditions but those that the theorems state.
-/
import Derived.Test.YtmmmjbipgngamaaGreatDoorRD
import Derived.Test.YtmmmjbipgngamaaGreatDoorPureNfa5
import Derived.Test.YtmmmjbipgngamaaGreatDoorRI
set_option linter.unusedVariables false
set_option linter.unusedSimpArgs false
namespace Go.Vai
open Go.Nfa
noncomputable section
def encR (r:Int×Int):List D:=[.int .i32 r.1,.int .i32 r.2]
mutual
def encN:Nd→List D
 | .mk k set no kids mn mx=>[.int .i64 k,.sl 2 set.length (set.flatMap encR),.bool no,.sl 6 kids.length (XEo kids),.int .i64 mn,.int .i64 mx]
def XEo:List Nd→List D
 | []=>[]
 | n::ns=>encN n++XEo ns
end
end
end Go.Vai
namespace Go.Vai
open Go.Nfa
abbrev D.vI (l:List Int):D:=.sl 1 l.length (l.map (D.int .i32))
abbrev D.vN (l:List Nat):D:=.sl 1 l.length (l.map natD)
abbrev cN (k:Int) (set:List (Int×Int)) (no:Bool) (kids:List Nd) (mn mx:Int):List D:=[.int .i64 k,.sl 2 set.length (set.flatMap encR),.bool no,.sl 6 kids.length (XEo kids),.int .i64 mn,.int .i64 mx]
end Go.Vai

/-
  What is proved here: places that are marked one by one; an alternation's ends, and a row's, out of their parts' ends; patterns of short texts are small. No conditions. (No program in sight.)
-/
import Derived.Test.YtiebldaihnbkmaaGreatDoorNQ
import Derived.Test.YtiebldaihnbkmaaGreatDoorPGa
set_option linter.unusedVariables false
set_option linter.unusedSimpArgs false
namespace Go.Vai
open Go.Nfa Go.Utf
theorem wp_of {N:Nd} (h:wr K14 1000000 N≤20000):wp K14 20001 N≤20000:=by
 by_cases e:wp K14 20001 N≤20000
 · exact e
 · exact absurd h (XIK e)
theorem XET {X:Nd} (hX:X0L X16 X) (sX:size X≤30) (hw:wr K14 1000000 X≤300):Nfa.cnt X16 X 1≤2000∧wp K14 20001 X≤20000:=by
 have:=X7u X
 have:=(Nfa.XAG X16 X 1).1 ⟨by omega,by omega,hX⟩
 exact⟨by omega,wp_of (by omega)⟩
theorem XCH {l:List Int} {N:Nd} {a j:Nat} (hl:X0L X16 N) (ha:a≤l.length):j∈X5M l N ((a:Nat):Int)↔M K14 l N a j:=by
 rw [XA5 (by omega),Int.toNat_natCast,XA8,X8B K14 l (X7w N hl) ha]
theorem XEU (l:List Int) (N:Nd) (a:Int):(X5M l N a).Pairwise (·<·):=by
 unfold X5M
 split
 · exact List.Pairwise.nil
 · exact XA9 _
end Go.Vai

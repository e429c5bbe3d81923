/-
  What is proved here: places that are marked one by one; an alternation's ends, and a row's, out of their parts' ends; pat the longest match at a place, the next one, the last one, how many there are one behind the other. No conditions but those that the theorems state.
-/
import Derived.Test.YtfcadnhoejlgoaaGreatDoorNQ
import Derived.Test.YtfcadnhoejlgoaaGreatDoorPGa
set_option linter.unusedVariables false
set_option linter.unusedSimpArgs false
namespace Go.Vai
open Go.Nfa Go.Utf
theorem XEB {l:List Int} {N:Nd} {a j:Nat} (hl:X0H X18 N) (ha:a≤l.length):j∈X0T l N ((a:Nat):Int)↔M K14 l N a j:=by
 rw [X8A (by omega),Int.toNat_natCast,XBW,X9O K14 l (X6G N hl) ha]
theorem XGz {xs:List Nat} {i:Nat} (h:i<xs.length):xs.getD i 0∈xs:=by
 rw [List.getD_eq_getElem?_getD,List.getElem?_eq_getElem h];exact List.getElem_mem h
end Go.Vai
namespace Go.Vai
open Go.Nfa Go.Utf
def atR (l:List Int) (N:Nd) (a:Int):Int:=if (X0T l N a).length=0 then 0 else(((X0T l N a).getD ((X0T l N a).length - 1) 0:Nat):Int) - a
theorem XEC {l:List Int} {N:Nd} {a:Int} (h:¬ (X0T l N a).length=0):0≤a∧a≤(l.length:Int):=by
 by_cases e:a<0∨(l.length:Int)<a
 · rw [X3W e]at h;simp at h
 · omega
theorem XBd {l:List Int} {N:Nd} {a:Int} (h:(X0T l N a).length=0):atR l N a=0:=if_pos h
theorem XH0 {l:List Int} {N:Nd} {a:Int} {x:Nat} (h:¬ (X0T l N a).length=0) (hx:x=(X0T l N a).length - 1):atR l N a=(((X0T l N a).getD x 0:Nat):Int) - a:=by subst hx;exact if_neg h
theorem XJg {l:List Int} {N:Nd} {a:Nat} {x:Nat} (hl:X0H X18 N) (ha:a≤l.length) (hx:x<(X0T l N ((a:Nat):Int)).length):a≤(X0T l N ((a:Nat):Int)).getD x 0∧(X0T l N ((a:Nat):Int)).getD x 0≤l.length:=by
 have hm:=XGz hx
 exact XJm K14 l (X6G N hl) ha ((XEB hl ha).1 hm)
theorem XBe {l:List Int} {N:Nd} {a:Int} {x:Nat} (hl:X0H X18 N) (hx:x<(X0T l N a).length):0≤a∧a≤(((X0T l N a).getD x 0:Nat):Int)∧(((X0T l N a).getD x 0:Nat):Int)≤(l.length:Int):=by
 obtain⟨h1,h2⟩:=XEC (l:=l) (N:=N) (a:=a) (by omega)
 obtain⟨b,rfl⟩:∃ b:Nat,a=(b:Int):=⟨a.toNat,by omega⟩
 have:=XJg hl (by omega) hx
 omega
abbrev XKv:=Int×Int×Bool
def X57 (l:List Int) (N:Nd):Nat→Nat→XKv
 | 0,_=>(0,0,false)
 | d+1,i=>if 0<atR l N ((i:Nat):Int)then((i:Int),atR l N ((i:Nat):Int),true)else X57 l N d (i+1)
def X9L (l:List Int) (N:Nd) (a:Int):XKv:=X57 l N (l.length - (max a 0).toNat) (max a 0).toNat
theorem XED {l:List Int} {N:Nd} {i:Nat} (h:¬ i<l.length):X57 l N (l.length - i) i=(0,0,false):=by rw [show l.length - i=0 by omega,X57]
theorem XEE {l:List Int} {N:Nd} {i:Nat} (h:i<l.length) (hp:0<atR l N ((i:Nat):Int)):X57 l N (l.length - i) i=((i:Int),atR l N ((i:Nat):Int),true):=by
 rw [show l.length - i=(l.length - (i+1))+1 by omega,X57,if_pos hp]
theorem XH1 {l:List Int} {N:Nd} {i:Nat} (h:i<l.length) (hp:¬ 0<atR l N ((i:Nat):Int)):X57 l N (l.length - i) i=X57 l N (l.length - (i+1)) (i+1):=by
 rw [show l.length - i=(l.length - (i+1))+1 by omega,X57,if_neg hp]
def X5i (l:List Int) (N:Nd):Nat→XKv
 | 0=>(0,0,false)
 | i+1=>if 0<atR l N ((i:Nat):Int)then((i:Int),atR l N ((i:Nat):Int),true)else X5i l N i
def X9M (l:List Int) (N:Nd) (a:Int):XKv:=X5i l N (min (max a 0) (l.length:Int)).toNat
theorem XEF {l:List Int} {N:Nd} {i:Nat} (hp:0<atR l N ((i:Nat):Int)):X5i l N (i+1)=((i:Int),atR l N ((i:Nat):Int),true):=by rw [X5i,if_pos hp]
theorem XH2 {l:List Int} {N:Nd} {i:Nat} (hp:¬ 0<atR l N ((i:Nat):Int)):X5i l N (i+1)=X5i l N i:=by rw [X5i,if_neg hp]
end Go.Vai

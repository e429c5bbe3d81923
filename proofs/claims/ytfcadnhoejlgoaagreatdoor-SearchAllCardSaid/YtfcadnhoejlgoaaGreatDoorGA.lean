/-
  What is proved here: cells and lines as plain data. the first hit behind a place and the last one ahead of it, going round line by line, are those of th what search answers, as the list of all hits tells it: the laws that its walks are joined by. No conditions but those that the theorems state.
-/
import Derived.Test.YtfcadnhoejlgoaaGreatDoorFA
import Derived.Test.YtfcadnhoejlgoaaGreatDoorRM
import Derived.Test.YtfcadnhoejlgoaaGreatDoorPureAlt
set_option linter.unusedVariables false
set_option linter.unusedSimpArgs false
namespace Go.Vai
open Go.Nfa
abbrev Cel:=Int×Int×Int
def X1o (c:Cel):List D:=[.int .i32 c.1,.int .i64 c.2.1,.int .i64 c.2.2]
theorem X83 (c:Cel):(X1o c).length=3:=rfl
abbrev X38 (r:List Cel):D:=.sl 3 r.length (r.flatMap X1o)
abbrev X2p (l:List Int):D:=.sl 1 l.length (l.map (D.int .i32))
theorem X4b {r:List Cel} {i:Nat} {x:Cel} (h:r[i]?=some x):((r.flatMap X1o).drop (i*3)).take 3=[.int .i32 x.1,.int .i64 x.2.1,.int .i64 x.2.2]:=X0x X83 h
theorem cel_0 {r:List Cel} {i:Nat} {x:Cel} (h:r[i]?=some x):(r.flatMap X1o)[i*3+0]?=some (.int .i32 x.1):=by
 have:=congrArg (fun l=>l[0]?) (X4b h)
 simpa[List.getElem?_take,List.getElem?_drop]using this
theorem cel_1 {r:List Cel} {i:Nat} {x:Cel} (h:r[i]?=some x):(r.flatMap X1o)[i*3+1]?=some (.int .i64 x.2.1):=by
 have:=congrArg (fun l=>l[1]?) (X4b h)
 simpa[List.getElem?_take,List.getElem?_drop]using this
theorem XFz {r:List Cel}:∀ (u:Nat),(r.flatMap X1o).take (u*3)=(r.take u).flatMap X1o:=by
 induction r with
 | nil=>intro u;simp
 | cons x r ih =>
  intro u
  cases u with
  | zero=>simp
  | succ u =>
   rw [List.take_succ_cons,List.flatMap_cons,List.flatMap_cons,← ih u,show(u+1)*3=(X1o x).length+u*3 by rw [X83];omega,List.take_length_add_append]
theorem XG0 {r:List Cel} {u:Nat} (h:u≤r.length):∃ c:List Cel,D.sl 3 (u - 0) (((r.flatMap X1o).drop (0*3)).take ((u - 0)*3))=.sl 3 c.length (c.flatMap X1o)∧c.length=u :=
 ⟨r.take u,by rw [Nat.zero_mul,List.drop_zero,Nat.sub_zero,XFz,List.length_take,Nat.min_eq_left h],by rw [List.length_take,Nat.min_eq_left h]⟩
abbrev D.vR (ls:List (List Cel)):D:=.sl 1 ls.length (ls.map X38)
abbrev X3B (r:List Cel):List Int:=r.map Prod.fst
theorem XB9 {r:List Cel} {i:Nat} {x:Cel} (h:r[i]?=some x):(r.take (i+1)).map Prod.fst=(r.take i).map Prod.fst++[x.1]:=by
 rw [List.take_add_one,h,List.map_append];rfl
def X0h:List (Int×Int):=[(-2147483648,31),(127,159),(768,879),(8203,8207),(65024,65039),(1114112,2147483647),(55296,57343)]
def X0J:List (Int×Int):=[(4352,4447),(11904,12350),(12353,13311),(13312,19903),(19968,40959),(40960,42191),(44032,55203),(63744,64255),(65072,65135),(65280,65376),(65504,65510),(127744,128591),(129280,129535),(131072,262141)]
theorem XG1 {α:Type} {P:α→Prop} {l:List α} {c:α} (h:∀ x∈l,P x) (hc:P c):∀ x∈l++[c],P x:=by
 intro x hx
 rcases List.mem_append.1 hx with h1 | h1
 · exact h x h1
 · rw [List.mem_singleton]at h1;subst h1;exact hc
end Go.Vai
namespace Go.Vai
open Go.Nfa
abbrev H3:=Int×Int×Int
def lnT (t:List (List Int)) (n:Nat):List Int:=t.getD n []
section
variable (t:List (List Int)) (N:Nd)
def XDC (n a:Nat):List H3:=if 0<atR (lnT t n) N ((a:Nat):Int)then[((n:Int),(a:Int),atR (lnT t n) N ((a:Nat):Int))]else[]
def X5W (n a d:Nat):List H3:=(List.range d).flatMap fun i=>XDC t N n (a+i)
def X66 (n:Nat) (a:Int):List H3:=X5W t N n (max a 0).toNat ((lnT t n).length - (max a 0).toNat)
def X77 (n b:Nat):List H3:=(List.range b).reverse.flatMap (XDC t N n)
def X1E (a d:Nat):List H3:=(List.range d).flatMap fun i=>X66 t N (a+i) 0
def X1p (a d:Nat):List H3:=(List.range d).reverse.flatMap fun i=>X77 t N (a+i) (lnT t (a+i)).length
def X4c:List H3:=X1E t N 0 t.length
def X4A (so:Int) (k:Nat):Int:=if k=0 then so+1 else 0
def XAM (sl:Nat) (so:Int) (k:Nat):List H3:=(List.range (t.length+1 - k)).flatMap fun j=>X66 t N ((sl+(k+j)) % t.length) (X4A so (k+j))
def nB (m sl k:Nat):Nat:=(((sl:Int) - (k:Int)) % (m:Int)).toNat
def XI0 (so:Int) (n k:Nat):Nat:=(min (max (if k=0 then so else((lnT t n).length:Int)) 0) ((lnT t n).length:Int)).toNat
def XAN (sl:Nat) (so:Int) (k:Nat):List H3:=(List.range (t.length+1 - k)).flatMap fun j=>X77 t N (nB t.length sl (k+j)) (XI0 t so (nB t.length sl (k+j)) (k+j))
end
variable {t:List (List Int)} {N:Nd}
theorem app2 {α:Type} {a b c d:List α} (h:a=c) (k:b=d):a++b=c++d:=by subst h;subst k;rfl
theorem X0Y {α:Type} {f g:Nat→List α} {n:Nat} (h:∀ i,i<n→f i=g i):(List.range n).flatMap f=(List.range n).flatMap g:=by
 induction n with
 | zero=>rfl
 | succ n ih=>rw [List.range_succ,List.flatMap_append,List.flatMap_append,ih fun i hi=>h i (by omega)];simp [h n (by omega)]
theorem X2G {α:Type} {f:Nat→List α} (m n:Nat):(List.range (m+n)).flatMap f=(List.range m).flatMap f++(List.range n).flatMap fun i=>f (m+i):=by
 rw [List.range_add,List.flatMap_append,List.flatMap_map]
theorem X3q {α:Type} {f:Nat→List α} (n:Nat):(List.range (n+1)).flatMap f=f 0++(List.range n).flatMap fun i=>f (i+1):=by
 rw [Nat.add_comm,X2G]
 congr 1
 · simp
 · exact X0Y fun i _=>by rw [Nat.add_comm]
theorem X8v (n a d:Nat):X5W t N n a (d+1)=XDC t N n a++X5W t N n (a+1) d:=by
 unfold X5W
 rw [X3q]
 congr 1
 exact X0Y fun i _=>by rw [show a+(i+1)=a+1+i by omega]
theorem X5p (n a d e:Nat):X5W t N n a (d+e)=X5W t N n a d++X5W t N n (a+d) e:=by
 unfold X5W
 rw [X2G]
 congr 1
 exact X0Y fun i _=>by rw [Nat.add_assoc]
theorem X2q (a d e:Nat):X1E t N a (d+e)=X1E t N a d++X1E t N (a+d) e:=by
 unfold X1E
 rw [X2G]
 congr 1
 exact X0Y fun i _=>by rw [Nat.add_assoc]
def toN:Option H3→XKv
 | some h=>(h.2.1,h.2.2,true)
 | none=>(0,0,false)
theorem XG2 (n:Nat) (a:Int):X9L (lnT t n) N a=toN (X66 t N n a).head?:=by
 unfold X9L X66
 generalize (max a 0).toNat=i
 generalize (lnT t n).length - i=d
 induction d generalizing i with
 | zero=>rfl
 | succ d ih =>
  rw [X8v,X57]
  unfold XDC
  split
  · rfl
  · rw [List.nil_append];exact ih (i+1)
theorem XG3 (n:Nat) (b:Int):X9M (lnT t n) N b=toN (X77 t N n (min (max b 0) ((lnT t n).length:Int)).toNat).head?:=by
 unfold X9M X77
 generalize (min (max b 0) ((lnT t n).length:Int)).toNat=i
 induction i with
 | zero=>rfl
 | succ i ih =>
  rw [X5i,List.range_succ,List.reverse_append,List.flatMap_append]
  simp only [List.reverse_singleton,List.flatMap_singleton]
  unfold XDC
  split
  · rfl
  · rw [List.nil_append];exact ih
theorem X67 {sl k:Nat} {so:Int} (h:k≤t.length):XAM t N sl so k=X66 t N ((sl+k) % t.length) (X4A so k)++XAM t N sl so (k+1):=by
 unfold XAM
 rw [show t.length+1 - k=(t.length - k)+1 by omega,X3q,show t.length+1 - (k+1)=t.length - k by omega,Nat.add_zero]
 exact congrArg _ (X0Y fun i _=>by rw [show k+(i+1)=k+1+i by omega])
theorem XG4 {sl k:Nat} {so:Int} (h:¬ k≤t.length):XAM t N sl so k=[]:=by
 unfold XAM
 rw [show t.length+1 - k=0 by omega];rfl
theorem X68 {sl k:Nat} {so:Int} (h:k≤t.length):XAN t N sl so k=X77 t N (nB t.length sl k) (XI0 t so (nB t.length sl k) k)++XAN t N sl so (k+1):=by
 unfold XAN
 rw [show t.length+1 - k=(t.length - k)+1 by omega,X3q,show t.length+1 - (k+1)=t.length - k by omega,Nat.add_zero]
 exact congrArg _ (X0Y fun i _=>by rw [show k+(i+1)=k+1+i by omega])
theorem XG5 {sl k:Nat} {so:Int} (h:¬ k≤t.length):XAN t N sl so k=[]:=by
 unfold XAN
 rw [show t.length+1 - k=0 by omega];rfl
theorem XBA {n a:Nat} {h:H3} (m:h∈XDC t N n a):h.1=n∧h.2.1=a:=by
 unfold XDC at m
 split at m
 · rw [List.mem_singleton]at m;subst m;exact⟨rfl,rfl⟩
 · cases m
theorem X3r {n a d:Nat} {h:H3} (m:h∈X5W t N n a d):h.1=n∧(a:Int)≤h.2.1∧h.2.1<(a+d:Nat):=by
 obtain⟨i,hi,k⟩:=List.mem_flatMap.1 m
 have hi:=List.mem_range.1 hi
 obtain⟨q1,q2⟩:=XBA k
 omega
theorem X4x {a d:Nat} {h:H3} (m:h∈X1E t N a d):(a:Int)≤h.1∧h.1<(a+d:Nat)∧0≤h.2.1:=by
 obtain⟨i,hi,k⟩:=List.mem_flatMap.1 m
 have hi:=List.mem_range.1 hi
 obtain⟨q1,q2,_⟩:=X3r k
 omega
theorem X84 {n b:Nat} {h:H3} (m:h∈X77 t N n b):h.1=n∧0≤h.2.1∧h.2.1<(b:Int):=by
 obtain⟨i,hi,k⟩:=List.mem_flatMap.1 m
 have hi:=List.mem_range.1 (List.mem_reverse.1 hi)
 obtain⟨q1,q2⟩:=XBA k
 omega
theorem X7U {a d:Nat} {h:H3} (m:h∈X1p t N a d):(a:Int)≤h.1∧h.1<(a+d:Nat):=by
 obtain⟨i,hi,k⟩:=List.mem_flatMap.1 m
 have hi:=List.mem_range.1 (List.mem_reverse.1 hi)
 obtain⟨q1,_⟩:=X84 k
 omega
theorem X4d {p:H3→Bool} {l:List H3} (h:∀ x∈l,p x=false):l.find? p=none:=List.find?_eq_none.2 fun x hx=>by rw [h x hx];simp
theorem X2h {p:H3→Bool} {l:List H3} (h:∀ x∈l,p x=true):l.find? p=l.head?:=by
 cases l with
 | nil=>rfl
 | cons x l=>rw [List.find?_cons_of_pos (h x (by simp))];rfl
theorem X5q {l m:List H3}:(l++m).head?=l.head?.or m.head?:=by cases l<;>simp
def pF (o:Bool) (s:Int×Int) (h:H3):Bool:=o || decide (s.1<h.1) || (decide (h.1=s.1) && decide (s.2<h.2.1))
theorem pF_o {s:Int×Int} {h:H3} {o:Bool} (e:o=true):pF o s h=true:=by subst e;simp [pF]
theorem XCM {s:Int×Int} {h:H3} {o:Bool} (e:s.1<h.1∨(h.1=s.1∧s.2<h.2.1)):pF o s h=true:=by
 unfold pF;rcases e with e | ⟨e1,e2⟩
 · simp [e]
 · simp [e1,e2]
theorem XG6 {s:Int×Int} {h:H3} {o:Bool} (e:o=false) (k:¬ (s.1<h.1∨(h.1=s.1∧s.2<h.2.1))):pF o s h=false:=by
 subst e
 unfold pF
 simp only [not_or,not_and]at k
 by_cases e1:h.1=s.1
 · simp [e1,k.2 e1]
 · simp [k.1,e1]
theorem XDI {sl:Nat} {so:Int} (hsl:sl<t.length):XAM t N sl so 0=X66 t N sl (so+1)++X1E t N (sl+1) (t.length - (sl+1))++X1E t N 0 (sl+1):=by
 rw [X67 (Nat.zero_le _),Nat.add_zero,Nat.mod_eq_of_lt hsl,show X4A so 0=so+1 from if_pos rfl,List.append_assoc]
 refine congrArg _ ?_
 unfold XAM
 rw [show t.length+1 - (0+1)=(t.length - (sl+1))+(sl+1)by omega,X2G]
 unfold X1E
 refine app2 ?_ ?_
 ·
  refine X0Y fun i hi=>?_
  rw [show X4A so (0+1+i)=0 from if_neg (by omega),show(sl+(0+1+i)) % t.length=sl+1+i from by rw [Nat.mod_eq_of_lt (by omega)];omega]
 ·
  refine X0Y fun i hi=>?_
  rw [show X4A so (0+1+(t.length - (sl+1)+i))=0 from if_neg (by omega),show(sl+(0+1+(t.length - (sl+1)+i)))=t.length+i by omega,Nat.add_mod_left,Nat.mod_eq_of_lt (by omega),Nat.zero_add]
theorem X8w {sl:Nat} (hsl:sl<t.length):X4c t N=X1E t N 0 sl++X66 t N sl 0++X1E t N (sl+1) (t.length - (sl+1)):=by
 unfold X4c
 rw [show t.length=sl+(1+(t.length - (sl+1)))by omega,X2q,X2q,← List.append_assoc]
 congr 1
 ·
  congr 1
  unfold X1E
  simp
 · rw [Nat.zero_add];congr 1;omega
theorem XDJ {n:Nat} {so:Int} (h : -1≤so):∃ pre,X66 t N n 0=pre++X66 t N n (so+1)∧∀ x∈pre,x.1=n∧x.2.1≤so:=by
 obtain⟨a,ha⟩:∃ a:Nat,so+1=(a:Int):=⟨(so+1).toNat,by omega⟩
 unfold X66
 rw [show(max (so+1) 0).toNat=a by omega,show(max (0:Int) 0).toNat=0 from rfl,Nat.sub_zero]
 by_cases k:a≤(lnT t n).length
 ·
  refine⟨X5W t N n 0 a,?_,fun x hx=>?_⟩
  ·
   have:=X5p (t:=t) (N:=N) n 0 a ((lnT t n).length - a)
   rw [show a+((lnT t n).length - a)=(lnT t n).length by omega,Nat.zero_add]at this
   exact this
  ·
   obtain⟨q1,q2,q3⟩:=X3r hx
   omega
 ·
  refine⟨X5W t N n 0 (lnT t n).length,?_,fun x hx=>?_⟩
  ·
   rw [show(lnT t n).length - a=0 by omega]
   simp [X5W]
  ·
   obtain⟨q1,q2,q3⟩:=X3r hx
   omega
theorem XBB {n:Nat} {a:Int} {h:H3} (m:h∈X66 t N n a):h.1=n∧a≤h.2.1∧0≤h.2.1:=by
 obtain⟨q1,q2,q3⟩:=X3r m
 omega
theorem XDK {sl:Nat} {so:Int} (hsl:sl<t.length) (hso : -1≤so):(XAM t N sl so 0).head?=((X4c t N).find? (pF false ((sl:Int),so))).or (X4c t N).head?:=by
 obtain⟨pre,hp,hpre⟩:=XDJ (t:=t) (N:=N) (n:=sl) hso
 have hA:=X8w (t:=t) (N:=N) hsl
 have hfind:(X4c t N).find? (pF false ((sl:Int),so))=(X66 t N sl (so+1)++X1E t N (sl+1) (t.length - (sl+1))).head?:=by
  rw [hA,hp,List.find?_append,List.find?_append,List.find?_append]
  rw [X4d (l:=X1E t N 0 sl) fun x hx=>by obtain⟨q1,q2,q3⟩:=X4x hx;exact XG6 rfl (by simp only;omega)]
  rw [X4d (l:=pre) fun x hx=>by obtain⟨q1,q2⟩:=hpre x hx;exact XG6 rfl (by simp only;omega)]
  rw [X2h (l:=X66 t N sl (so+1)) fun x hx=>by obtain⟨q1,q2,q3⟩:=XBB hx;exact XCM (by simp only;omega)]
  rw [X2h (l:=X1E t N (sl+1) (t.length - (sl+1))) fun x hx=>by obtain⟨q1,q2,q3⟩:=X4x hx;exact XCM (by simp only;omega)]
  rw [Option.none_or,Option.none_or,X5q]
 rw [hfind,XDI hsl,X5q]
 cases ha:(X66 t N sl (so+1)++X1E t N (sl+1) (t.length - (sl+1)))with
 | cons x l=>rfl
 | nil =>
  obtain⟨e1,e2⟩:=List.append_eq_nil_iff.1 ha
  rw [hA,e2,List.append_nil]
  have:X1E t N 0 (sl+1)=X1E t N 0 sl++X66 t N sl 0:=by
   rw [X2q];congr 1;unfold X1E;simp
  rw [this]
def qB (o:Bool) (s:Int×Int) (h:H3):Bool:=o || decide (h.1<s.1) || (decide (h.1=s.1) && decide (h.2.1<s.2))
theorem XIp {s:Int×Int} {h:H3} {o:Bool} (e:o=true):qB o s h=true:=by subst e;simp [qB]
theorem X85 {s:Int×Int} {h:H3} {o:Bool} (e:h.1<s.1∨(h.1=s.1∧h.2.1<s.2)):qB o s h=true:=by
 unfold qB;rcases e with e | ⟨e1,e2⟩
 · simp [e]
 · simp [e1,e2]
theorem XCN {s:Int×Int} {h:H3} {o:Bool} (e:o=false) (k:¬ (h.1<s.1∨(h.1=s.1∧h.2.1<s.2))):qB o s h=false:=by
 subst e
 unfold qB
 simp only [not_or,not_and]at k
 by_cases e1:h.1=s.1
 ·
  have:=k.2 e1
  rw [e1]at k
  simp [e1,this]
 · simp [k.1,e1]
theorem XG7 (n a:Nat):(XDC t N n a).reverse=XDC t N n a:=by unfold XDC;split<;>rfl
theorem X86 (n d:Nat):(X5W t N n 0 d).reverse=X77 t N n d:=by
 unfold X5W X77
 rw [List.reverse_flatMap]
 congr 1
 funext i
 simp [XG7]
theorem XBC (n:Nat):(X66 t N n 0).reverse=X77 t N n (lnT t n).length:=by
 unfold X66
 rw [show(max (0:Int) 0).toNat=0 from rfl,Nat.sub_zero,X86]
theorem X2r (a d:Nat):(X1E t N a d).reverse=X1p t N a d:=by
 unfold X1E X1p
 rw [List.reverse_flatMap]
 congr 1
 funext i
 simp [XBC]
theorem XCO (a d e:Nat):X1p t N a (d+e)=X1p t N (a+d) e++X1p t N a d:=by
 rw [← X2r,X2q,List.reverse_append,X2r,X2r]
theorem XCP (a:Nat):X1p t N a 1=X77 t N a (lnT t a).length:=by unfold X1p;simp
theorem XCQ {n:Nat} {b:Nat} (h:b≤(lnT t n).length):∃ post,X77 t N n (lnT t n).length=post++X77 t N n b∧∀ x∈post,x.1=n∧(b:Int)≤x.2.1:=by
 refine⟨(X5W t N n b ((lnT t n).length - b)).reverse,?_,fun x hx=>?_⟩
 ·
  rw [← X86,← X86,← List.reverse_append]
  have:=X5p (t:=t) (N:=N) n 0 b ((lnT t n).length - b)
  rw [show b+((lnT t n).length - b)=(lnT t n).length by omega,Nat.zero_add]at this
  rw [this]
 ·
  obtain⟨q1,q2,_⟩:=X3r (List.mem_reverse.1 hx)
  exact⟨q1,q2⟩
theorem XL9 {m sl k:Nat} (h:k≤sl) (hs:sl<m):nB m sl k=sl - k:=by
 unfold nB
 rw [show((sl:Int) - (k:Int))=((sl - k:Nat):Int)by omega,← Int.natCast_emod,Int.toNat_natCast,Nat.mod_eq_of_lt (by omega)]
theorem nB_hi {m sl k:Nat} (h:sl<k) (hk:k≤m):nB m sl k=m+sl - k:=by
 unfold nB
 rw [← Int.add_emod_right,show((sl:Int) - (k:Int)+(m:Int))=((m+sl - k:Nat):Int)by omega,← Int.natCast_emod,Int.toNat_natCast,Nat.mod_eq_of_lt (by omega)]
theorem nB_lt {m sl k:Nat} (h:0<m):nB m sl k<m:=by
 unfold nB
 have h1:=Int.emod_nonneg ((sl:Int) - (k:Int)) (show(m:Int)≠0 by omega)
 have h2:=Int.emod_lt_of_pos ((sl:Int) - (k:Int)) (show(0:Int)<(m:Int)by omega)
 omega
theorem X69 {α:Type} {f:Nat→List α}:∀ (n:Nat),(List.range n).flatMap (fun i=>f (n - 1 - i))=(List.range n).reverse.flatMap f:=by
 intro n
 induction n with
 | zero=>rfl
 | succ n ih =>
  rw [X3q,List.range_succ,List.reverse_append,List.flatMap_append,← ih]
  congr 1
  · simp
  · exact X0Y fun i hi=>by rw [show n+1 - 1 - (i+1)=n - 1 - i by omega]
theorem XDL {sl:Nat} {so:Int} (hsl:sl<t.length) (h0:0≤so) (h1:so≤((lnT t sl).length:Int)):XAN t N sl so 0=X77 t N sl so.toNat++X1p t N 0 sl++X1p t N sl (t.length - sl):=by
 rw [X68 (Nat.zero_le _),XL9 (Nat.zero_le _) hsl,Nat.sub_zero,List.append_assoc,show XI0 t so sl 0=so.toNat by unfold XI0;rw [if_pos rfl];congr 1;omega]
 refine congrArg _ ?_
 have hb:∀ n k,k≠0→XI0 t so n k=(lnT t n).length:=fun n k hk=>by unfold XI0;rw [if_neg hk];omega
 unfold XAN
 rw [show t.length+1 - (0+1)=sl+(t.length - sl)by omega,X2G]
 refine app2 ?_ ?_
 ·
  unfold X1p
  rw [← X69]
  refine X0Y fun i hi=>?_
  rw [XL9 (by omega) hsl,hb _ _ (by omega),show sl - (0+1+i)=0+(sl - 1 - i)by omega]
 ·
  unfold X1p
  rw [← X69]
  refine X0Y fun i hi=>?_
  rw [nB_hi (by omega) (by omega),hb _ _ (by omega),show t.length+sl - (0+1+(sl+i))=sl+(t.length - sl - 1 - i)by omega]
theorem XDM {sl:Nat} {so:Int} (hsl:sl<t.length) (h0:0≤so) (h1:so≤((lnT t sl).length:Int)):(XAN t N sl so 0).head?=((X4c t N).reverse.find? (qB false ((sl:Int),so))).or (X4c t N).reverse.head?:=by
 obtain⟨post,hp,hpost⟩:=XCQ (t:=t) (N:=N) (n:=sl) (b:=so.toNat) (by omega)
 have hA:(X4c t N).reverse=X1p t N (sl+1) (t.length - (sl+1))++(post++X77 t N sl so.toNat)++X1p t N 0 sl:=by
  rw [X8w hsl,List.reverse_append,List.reverse_append,X2r,XBC,X2r,hp]
  simp only [List.append_assoc]
 have hfind:(X4c t N).reverse.find? (qB false ((sl:Int),so))=(X77 t N sl so.toNat++X1p t N 0 sl).head?:=by
  rw [hA,List.find?_append,List.find?_append,List.find?_append]
  rw [X4d (l:=X1p t N (sl+1) (t.length - (sl+1))) fun x hx=>by obtain⟨q1,q2⟩:=X7U hx;exact XCN rfl (by simp only;omega)]
  rw [X4d (l:=post) fun x hx=>by obtain⟨q1,q2⟩:=hpost x hx;exact XCN rfl (by simp only;omega)]
  rw [X2h (l:=X77 t N sl so.toNat) fun x hx=>by obtain⟨q1,q2,q3⟩:=X84 hx;exact X85 (by simp only;omega)]
  rw [X2h (l:=X1p t N 0 sl) fun x hx=>by obtain⟨q1,q2⟩:=X7U hx;exact X85 (by simp only;omega)]
  rw [Option.none_or,Option.none_or,X5q]
 rw [hfind,XDL hsl h0 h1,X5q]
 cases ha:(X77 t N sl so.toNat++X1p t N 0 sl)with
 | cons x l=>rfl
 | nil =>
  obtain⟨e1,e2⟩:=List.append_eq_nil_iff.1 ha
  rw [hA,e2,List.append_nil,e1,List.append_nil]
  have:X1p t N sl (t.length - sl)=X1p t N (sl+1) (t.length - (sl+1))++post:=by
   rw [show t.length - sl=1+(t.length - (sl+1))by omega,XCO,XCP,hp,e1,List.append_nil]
  rw [this]
end Go.Vai
namespace Go.Vai
open Go.Nfa
abbrev tOf (ls:List (List Cel)):List (List Int):=ls.map X3B
theorem XDN (ls:List (List Cel)) (n:Nat):lnT (tOf ls) n=X3B (ls.getD n []):=by
 unfold lnT
 rw [List.getD_eq_getElem?_getD,List.getD_eq_getElem?_getD,List.getElem?_map]
 cases ls[n]?<;>rfl
theorem X87 (ls:List (List Cel)) (n:Nat):(lnT (tOf ls) n).length=(ls.getD n []).length:=by rw [XDN,List.length_map]
theorem X1C (ls:List (List Cel)):(tOf ls).length=ls.length:=List.length_map _
theorem X2Z {α:Type} {l:List (List α)} {c:Nat} (h:∀ x∈l,x.length≤c) (i:Nat):(l.getD i []).length≤c:=by
 rw [List.getD_eq_getElem?_getD]
 cases e:l[i]? with
 | none=>exact Nat.zero_le _
 | some x=>exact h x (List.mem_of_getElem? e)
theorem XBD {ls:List (List Cel)} {c:Nat} (h:∀ x∈ls,x.length≤c):∀ x∈tOf ls,x.length≤c:=by
 intro x hx
 obtain⟨y,hy,rfl⟩:=List.mem_map.1 hx
 rw [List.length_map];exact h y hy
def X0M (h:H3):List D:=[.int .i64 h.1,.int .i64 h.2.1,.int .i64 h.2.2]
theorem XBE (h:H3):(X0M h).length=3:=rfl
theorem X1M {r:List H3} {i:Nat} {x:H3} (h:r[i]?=some x):((r.flatMap X0M).drop (i*3)).take 3=[.int .i64 x.1,.int .i64 x.2.1,.int .i64 x.2.2]:=X0x XBE h
theorem XCR {r:List H3} {i:Nat} {x:H3} (h:r[i]?=some x):(r.flatMap X0M)[i*3+0]?=some (.int .i64 x.1):=by
 have:=congrArg (fun l=>l[0]?) (X1M h)
 simpa[List.getElem?_take,List.getElem?_drop]using this
theorem XIq {r:List H3} {i:Nat} {x:H3} (h:r[i]?=some x):(r.flatMap X0M)[i*3+1]?=some (.int .i64 x.2.1):=by
 have:=congrArg (fun l=>l[1]?) (X1M h)
 simpa[List.getElem?_take,List.getElem?_drop]using this
theorem XG8 {t:List (List Int)} {N:Nd} {n a:Nat} (h:0<atR (t.getD n []) N ((a:Nat):Int)):X5W t N n 0 (a+1)=X5W t N n 0 a++[((n:Int),(a:Int),atR (t.getD n []) N ((a:Nat):Int))]:=by
 rw [X5p,Nat.zero_add]
 congr 1
 unfold X5W
 simp only [List.range_one,List.flatMap_singleton,Nat.add_zero]
 exact if_pos h
theorem XDO {t:List (List Int)} {N:Nd} {n a:Nat} (h:¬ 0<atR (t.getD n []) N ((a:Nat):Int)):X5W t N n 0 (a+1)=X5W t N n 0 a:=by
 rw [X5p,Nat.zero_add]
 have:X5W t N n a 1=[]:=by
  unfold X5W
  simp only [List.range_one,List.flatMap_singleton,Nat.add_zero]
  exact if_neg h
 rw [this,List.append_nil]
theorem X7V {t:List (List Int)} {N:Nd} {i a:Nat} (h:a=(t.getD i []).length):X1E t N 0 (i+1)=X1E t N 0 i++X5W t N i 0 a:=by
 subst h
 rw [X2q]
 congr 1
 unfold X1E X66
 simp only [List.range_one,List.flatMap_singleton,Nat.zero_add,Nat.add_zero]
 rfl
theorem XG9 {t:List (List Int)} {N:Nd} {out:List H3} {i n:Nat} (h:out=X1E t N 0 i) (hn:out.length=n) (hi:i=t.length):D.sl 3 n (out.flatMap X0M)=.sl 3 (X4c t N).length ((X4c t N).flatMap X0M):=by
 subst h;subst hn;subst hi;rfl
theorem XIr (t:List (List Int)) (N:Nd) (n a:Nat):(XDC t N n a).length≤1:=by unfold XDC;split<;>simp
theorem X6A (t:List (List Int)) (N:Nd) (n:Nat):∀ (d a:Nat),(X5W t N n a d).length≤d:=by
 intro d
 induction d with
 | zero=>intro a;exact Nat.le_refl _
 | succ d ih =>
  intro a
  rw [X8v,List.length_append]
  have:=XIr t N n a
  have:=ih (a+1)
  omega
theorem XGA {t:List (List Int)} {N:Nd} (h:∀ x∈t,x.length≤40):∀ d,(X1E t N 0 d).length≤40*d:=by
 intro d
 induction d with
 | zero=>exact Nat.le_refl _
 | succ d ih =>
  rw [X7V (a:=(t.getD d []).length) rfl,List.length_append]
  have:=X6A t N d (t.getD d []).length 0
  have:=X2Z h d
  omega
theorem XI1 {t:List (List Int)} {N:Nd} (hc:t.length≤10) (h:∀ x∈t,x.length≤40):(X4c t N).length≤400:=by
 have:=XGA (N:=N) h t.length
 unfold X4c
 omega
def X5X:Option H3→D
 | some h=>.tup [.agg [.int .i64 h.1,.int .i64 h.2.1,.int .i64 h.2.2],.bool true]
 | none=>.tup [.agg [.int .i64 0,.int .i64 0,.int .i64 0],.bool false]
def inB (ls:List (List Cel)) (s:Int×Int):Bool:=decide (0≤s.1∧s.1<(ls.length:Int)∧0≤s.2∧s.2≤((ls.getD s.1.toNat []).length:Int))
theorem XGB {ls:List (List Cel)} {s:Int×Int} (h:¬ (0≤s.1∧s.1<(ls.length:Int)∧0≤s.2∧s.2≤((ls.getD s.1.toNat []).length:Int))):false=inB ls s:=(decide_eq_false h).symm
theorem inB_d {ls:List (List Cel)} {s:Int×Int} {p:Prop} [Decidable p] (h:p↔(0≤s.1∧s.1<(ls.length:Int)∧0≤s.2∧s.2≤((ls.getD s.1.toNat []).length:Int))):decide p=inB ls s:=decide_eq_decide.2 h
theorem XDP {l:List Cel} {out:List Int} {i n:Nat} (h:out=(l.take i).map Prod.fst) (hn:out.length=n) (hi:l.length≤i):D.sl 1 n (out.map (D.int .i32))=.sl 1 (X3B l).length ((X3B l).map (D.int .i32)):=by
 rw [List.take_of_length_le hi]at h
 subst h;subst hn;rfl
theorem XGC {ls:List (List Cel)} {s:Int×Int} (h:inB ls s=true):0≤s.1∧s.1<(ls.length:Int)∧0≤s.2∧s.2≤((ls.getD s.1.toNat []).length:Int):=of_decide_eq_true h
def XGD (ls:List (List Cel)) (N:Nd) (s:Int×Int):Option H3:=if ls.length=0 then none else(XAM (tOf ls) N (if inB ls s then s.1.toNat else 0) (if inB ls s then s.2 else -1) 0).head?
def XDQ (ls:List (List Cel)):Int:=((ls.getD (ls.length - 1) []).length:Int)
def XGE (ls:List (List Cel)) (N:Nd) (s:Int×Int):Option H3:=if ls.length=0 then none else(XAN (tOf ls) N (if inB ls s then s.1.toNat else ls.length - 1) (if inB ls s then s.2 else XDQ ls) 0).head?
def X0n (ls:List (List Cel)) (N:Nd) (s:Int×Int):Bool→Option H3
 | true=>((X4c (tOf ls) N).reverse.find? (qB (!inB ls s) s)).or (X4c (tOf ls) N).reverse.head?
 | false=>((X4c (tOf ls) N).find? (pF (!inB ls s) s)).or (X4c (tOf ls) N).head?
theorem all_nil {ls:List (List Cel)} {N:Nd} (h:ls.length=0):X4c (tOf ls) N=[]:=by
 unfold X4c
 rw [X1C,h];rfl
theorem XLA (ls:List (List Cel)) (N:Nd) (s:Int×Int):XGD ls N s=X0n ls N s false:=by
 unfold XGD X0n
 by_cases h0:ls.length=0
 · rw [if_pos h0,all_nil h0];rfl
 rw [if_neg h0]
 cases hi:inB ls s with
 | true =>
  obtain⟨h1,h2,h3,h4⟩:=XGC hi
  have e:((s.1.toNat:Int),s.2)=s:=by rw [Int.toNat_of_nonneg h1]
  simp only [if_true,Bool.not_true]
  rw [XDK (by rw [X1C];omega) (by omega),e]
 | false =>
  simp only [Bool.false_eq_true,if_false,Bool.not_false]
  rw [XDK (by rw [X1C];omega) (Int.le_refl _)]
  rw [X2h (p:=pF false (((0:Nat):Int),-1)) (l:=X4c (tOf ls) N) fun x hx=>by obtain⟨q1,q2,q3⟩:=X4x hx;exact XCM (by simp only;omega)]
  rw [X2h (p:=pF true s) (l:=X4c (tOf ls) N) fun x hx=>pF_o rfl]
theorem XGF {t:List (List Int)} {N:Nd} {h:H3} (m:h∈X4c t N):∃ n:Nat,n<t.length∧h.1=n∧0≤h.2.1∧h.2.1<((lnT t n).length:Int):=by
 obtain⟨i,hi,k⟩:=List.mem_flatMap.1 m
 have hi:=List.mem_range.1 hi
 obtain⟨q1,q2,q3⟩:=X3r k
 refine⟨0+i,by omega,q1,by omega,?_⟩
 have:(max (0:Int) 0).toNat=0:=rfl
 rw [this]at q3
 omega
theorem XLB (ls:List (List Cel)) (N:Nd) (s:Int×Int):XGE ls N s=X0n ls N s true:=by
 unfold XGE X0n
 by_cases h0:ls.length=0
 · rw [if_pos h0,all_nil h0];rfl
 rw [if_neg h0]
 cases hi:inB ls s with
 | true =>
  obtain⟨h1,h2,h3,h4⟩:=XGC hi
  have e:((s.1.toNat:Int),s.2)=s:=by rw [Int.toNat_of_nonneg h1]
  simp only [if_true,Bool.not_true]
  rw [XDM (by rw [X1C];omega) h3 (by rw [X87];exact h4),e]
 | false =>
  simp only [Bool.false_eq_true,if_false,Bool.not_false]
  rw [XDM (sl:=ls.length - 1) (so:=XDQ ls) (by rw [X1C];omega) (Int.natCast_nonneg _) (by rw [X87];exact Int.le_refl _)]
  rw [X2h (p:=qB true s) (l:=(X4c (tOf ls) N).reverse) fun x hx=>XIp rfl]
  rw [X2h (p:=qB false (((ls.length - 1:Nat):Int),XDQ ls)) (l:=(X4c (tOf ls) N).reverse) fun x hx=>?_]
  obtain⟨n,q0,q1,q2,q3⟩:=XGF (List.mem_reverse.1 hx)
  rw [X1C]at q0
  refine X85 ?_
  unfold XDQ
  simp only
  by_cases e:n=ls.length - 1
  ·
   subst e
   rw [X87]at q3
   exact .inr ⟨q1,q3⟩
  · exact .inl (by omega)
theorem XLC {ls:List (List Cel)} {N:Nd} {n:Nat} {a:Int}:(X9L (X3B (ls.getD n [])) N a=(0,0,false)∧X66 (tOf ls) N n a=[])∨∃ i q:Int,∃ tl,X9L (X3B (ls.getD n [])) N a=(i,q,true)∧X66 (tOf ls) N n a=((n:Int),i,q)::tl:=by
 have e:=XG2 (t:=tOf ls) (N:=N) n a
 rw [XDN]at e
 cases h:X66 (tOf ls) N n a with
 | nil=>rw [h]at e;exact .inl ⟨e,rfl⟩
 | cons x tl =>
  rw [h]at e
  have hx:x.1=(n:Int):=(XBB (t:=tOf ls) (N:=N) (n:=n) (a:=a) (h:=x) (by rw [h];simp)).1
  refine .inr ⟨x.2.1,x.2.2,tl,e,?_⟩
  rw [← hx]
theorem XLD {ls:List (List Cel)} {N:Nd} {n:Nat} {b:Int}:(X9M (X3B (ls.getD n [])) N b=(0,0,false)∧X77 (tOf ls) N n (min (max b 0) ((ls.getD n []).length:Int)).toNat=[])∨∃ i q:Int,∃ tl,X9M (X3B (ls.getD n [])) N b=(i,q,true)∧X77 (tOf ls) N n (min (max b 0) ((ls.getD n []).length:Int)).toNat=((n:Int),i,q)::tl:=by
 have e:=XG3 (t:=tOf ls) (N:=N) n b
 rw [XDN,List.length_map]at e
 cases h:X77 (tOf ls) N n (min (max b 0) ((ls.getD n []).length:Int)).toNat with
 | nil=>rw [h]at e;exact .inl ⟨e,rfl⟩
 | cons x tl =>
  rw [h]at e
  have hx:x.1=(n:Int):=(X84 (t:=tOf ls) (N:=N) (n:=n) (h:=x) (by rw [h];simp)).1
  refine .inr ⟨x.2.1,x.2.2,tl,e,?_⟩
  rw [← hx]
theorem XLE {ls:List (List Cel)} {N:Nd} {sl k n:Nat} {so a:Int} (hk:k≤ls.length) (hn:n=(sl+k) % ls.length) (ha:a=X4A so k) (h:X66 (tOf ls) N n a=[]):(XAM (tOf ls) N sl so k).head?=(XAM (tOf ls) N sl so (k+1)).head?:=by
 subst hn ha
 rw [X67 (by rw [X1C];exact hk),X1C,h,List.nil_append]
theorem XIs {ls:List (List Cel)} {N:Nd} {sl k n:Nat} {so a:Int} {x:H3} {tl:List H3} (hk:k≤ls.length) (hn:n=(sl+k) % ls.length) (ha:a=X4A so k) (h:X66 (tOf ls) N n a=x::tl):(XAM (tOf ls) N sl so k).head?=some x:=by
 subst hn ha
 rw [X67 (by rw [X1C];exact hk),X1C,h];rfl
theorem XI2 {ls:List (List Cel)} {so b:Int} {n k:Nat} (hb:b=if k=0 then so else((ls.getD n []).length:Int)):XI0 (tOf ls) so n k=(min (max b 0) ((ls.getD n []).length:Int)).toNat:=by
 subst hb
 unfold XI0
 rw [X87]
theorem XLF {ls:List (List Cel)} {N:Nd} {sl k n:Nat} {so b:Int} (hk:k≤ls.length) (hn:n=nB ls.length sl k) (hb:b=if k=0 then so else((ls.getD n []).length:Int)) (h:X77 (tOf ls) N n (min (max b 0) ((ls.getD n []).length:Int)).toNat=[]):(XAN (tOf ls) N sl so k).head?=(XAN (tOf ls) N sl so (k+1)).head?:=by
 rw [X68 (by rw [X1C];exact hk),X1C,← hn,XI2 hb,h,List.nil_append]
theorem XIt {ls:List (List Cel)} {N:Nd} {sl k n:Nat} {so b:Int} {x:H3} {tl:List H3} (hk:k≤ls.length) (hn:n=nB ls.length sl k) (hb:b=if k=0 then so else((ls.getD n []).length:Int)) (h:X77 (tOf ls) N n (min (max b 0) ((ls.getD n []).length:Int)).toNat=x::tl):(XAN (tOf ls) N sl so k).head?=some x:=by
 rw [X68 (by rw [X1C];exact hk),X1C,← hn,XI2 hb,h];rfl
theorem XIu {ls:List (List Cel)} {N:Nd} {sl k:Nat} {so:Int} (hk:¬ k≤ls.length):(XAM (tOf ls) N sl so k).head?=none:=by rw [XG4 (by rw [X1C];exact hk)];rfl
theorem XIv {ls:List (List Cel)} {N:Nd} {sl k:Nat} {so:Int} (hk:¬ k≤ls.length):(XAN (tOf ls) N sl so k).head?=none:=by rw [XG5 (by rw [X1C];exact hk)];rfl
theorem X8x {p:H3→Bool} {h:List H3} {i:Nat} {x:H3} (hd:h.drop i=x::h.drop (i+1)) (hp:p x=false):(h.drop i).find? p=(h.drop (i+1)).find? p:=by rw [hd,List.find?_cons_of_neg (by rw [hp];simp)]
theorem XCS {p:H3→Bool} {h:List H3} {i:Nat} {x:H3} (hd:h.drop i=x::h.drop (i+1)) (hp:p x=true):(h.drop i).find? p=some x:=by rw [hd,List.find?_cons_of_pos hp]
theorem XBF {h:List H3} {i:Nat} {x:H3} (hx:h[i]?=some x):(h.take (i+1)).reverse=x::(h.take i).reverse:=by
 rw [List.take_add_one,hx,List.reverse_append];rfl
section
variable {ls:List (List Cel)} {N:Nd} {s:Int×Int} {A:List H3} {o:Bool} (hA:A=X4c (tOf ls) N) (ho:o = !inB ls s)
include hA
theorem XDR (h:A.length=0) (b:Bool):X0n ls N s b=none:=by
 have:A=[]:=List.length_eq_zero_iff.1 h
 subst this
 unfold X0n
 cases b<;>simp only [← hA]<;>rfl
include ho
theorem X6B {i:Nat} {x:H3} (hr:A.find? (pF o s)=(A.drop i).find? (pF o s)) (hd:A.drop i=x::A.drop (i+1)) (hp:pF o s x=true):X0n ls N s false=some x:=by
 unfold X0n
 simp only [← hA,← ho]
 rw [hr,XCS hd hp];rfl
theorem X8y {i:Nat} {y:H3} (hr:A.find? (pF o s)=(A.drop i).find? (pF o s)) (hi:A.length≤i) (hy:A[0]?=some y):X0n ls N s false=some y:=by
 unfold X0n
 simp only [← hA,← ho]
 rw [hr,List.drop_eq_nil_of_le hi,List.head?_eq_getElem?,hy];rfl
theorem X2s {j0:Nat} {x:H3} (hr:A.reverse.find? (qB o s)=((A.take (j0+1)).reverse).find? (qB o s)) (hx:A[j0]?=some x) (hp:qB o s x=true):X0n ls N s true=some x:=by
 unfold X0n
 simp only [← hA,← ho]
 rw [hr,XBF hx,List.find?_cons_of_pos hp];rfl
theorem X8z {j i:Nat} {y:H3} (hr:A.reverse.find? (qB o s)=((A.take j).reverse).find? (qB o s)) (hj:j=0) (hi:i=A.length - 1) (hy:A[i]?=some y):X0n ls N s true=some y:=by
 subst hj hi
 unfold X0n
 simp only [← hA,← ho]
 rw [hr,List.take_zero,List.head?_reverse,List.getLast?_eq_getElem?,hy];rfl
end
theorem XBG {A:List H3} {p:H3→Bool} {j0:Nat} {x:H3} (hx:A[j0]?=some x) (hp:p x=false):((A.take (j0+1)).reverse).find? p=((A.take j0).reverse).find? p:=by rw [XBF hx,List.find?_cons_of_neg (by rw [hp];simp)]
theorem XCT {ls:List (List Cel)} {s:Int×Int} (h:¬ (0≤s.1∧s.1<(ls.length:Int)∧0≤s.2∧s.2≤((ls.getD s.1.toNat []).length:Int))):true = !inB ls s:=by rw [← XGB h];rfl
theorem XLG {ls:List (List Cel)} {s:Int×Int} {p:Prop} [Decidable p] (h:p↔¬ (0≤s.1∧s.1<(ls.length:Int)∧0≤s.2∧s.2≤((ls.getD s.1.toNat []).length:Int))):decide p = !inB ls s:=by
 unfold inB
 rw [← decide_not]
 exact decide_eq_decide.2 h
theorem XBH {ls:List (List Cel)} {i:Nat} (h:i<ls.length):(tOf ls).take (i+1)=(tOf ls).take i++[X3B (ls.getD i [])]:=by
 rw [List.take_add_one,List.getElem?_map,List.getElem?_eq_getElem h,List.getD_eq_getElem?_getD,List.getElem?_eq_getElem h];rfl
theorem XDS {ls:List (List Cel)} {out:List (List Int)} {i n:Nat} (h:out=(tOf ls).take i) (hn:out.length=n) (hi:ls.length≤i):D.sl 1 n (out.map X2p)=.sl 1 (tOf ls).length ((tOf ls).map X2p):=by
 rw [List.take_of_length_le (by rw [X1C];exact hi)]at h
 subst h;subst hn;rfl
def oH1:Option H3→Int
 | some h=>h.1
 | none=>0
def oH2:Option H3→Int
 | some h=>h.2.1
 | none=>0
def oH3:Option H3→Int
 | some h=>h.2.2
 | none=>0
theorem XBI (X:Option H3):X5X X=.tup [.agg [.int .i64 (oH1 X),.int .i64 (oH2 X),.int .i64 (oH3 X)],.bool X.isSome]:=by cases X<;>rfl
end Go.Vai

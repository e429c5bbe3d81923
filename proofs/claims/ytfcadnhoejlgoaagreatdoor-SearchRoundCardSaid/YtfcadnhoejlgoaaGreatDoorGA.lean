/-
  What is proved here: cells and lines as plain data. the first hit behind a place and the last one ahead of it, going round line by line, are those of th what search answers, as the list of all hits tells it: the laws that its walks are joined by. from hit to hit, forward and backward, round. No conditions but those that the theorems state.
-/
import Derived.Test.YtfcadnhoejlgoaaGreatDoorFA
import Derived.Test.YtfcadnhoejlgoaaGreatDoorRM
import Derived.Test.YtfcadnhoejlgoaaGreatDoorPureAlt
set_option linter.unusedVariables false
set_option linter.unusedSimpArgs false
namespace Go.Vai
open Go.Nfa
abbrev Cel:=Int×Int×Int
def X2k (c:Cel):List D:=[.int .i32 c.1,.int .i64 c.2.1,.int .i64 c.2.2]
theorem X83 (c:Cel):(X2k c).length=3:=rfl
abbrev X46 (r:List Cel):D:=.sl 3 r.length (r.flatMap X2k)
abbrev X38 (l:List Int):D:=.sl 1 l.length (l.map (D.int .i32))
theorem X5l {r:List Cel} {i:Nat} {x:Cel} (h:r[i]?=some x):((r.flatMap X2k).drop (i*3)).take 3=[.int .i32 x.1,.int .i64 x.2.1,.int .i64 x.2.2]:=X0v X83 h
theorem cel_1 {r:List Cel} {i:Nat} {x:Cel} (h:r[i]?=some x):(r.flatMap X2k)[i*3+1]?=some (.int .i64 x.2.1):=by
 have:=congrArg (fun l=>l[1]?) (X5l h)
 simpa[List.getElem?_take,List.getElem?_drop]using this
theorem XFo {r:List Cel}:∀ (u:Nat),(r.flatMap X2k).take (u*3)=(r.take u).flatMap X2k:=by
 induction r with
 | nil=>intro u;simp
 | cons x r ih =>
  intro u
  cases u with
  | zero=>simp
  | succ u =>
   rw [List.take_succ_cons,List.flatMap_cons,List.flatMap_cons,← ih u,show(u+1)*3=(X2k x).length+u*3 by rw [X83];omega,List.take_length_add_append]
theorem XFp {r:List Cel} {u:Nat} (h:u≤r.length):∃ c:List Cel,D.sl 3 (u - 0) (((r.flatMap X2k).drop (0*3)).take ((u - 0)*3))=.sl 3 c.length (c.flatMap X2k)∧c.length=u :=
 ⟨r.take u,by rw [Nat.zero_mul,List.drop_zero,Nat.sub_zero,XFo,List.length_take,Nat.min_eq_left h],by rw [List.length_take,Nat.min_eq_left h]⟩
abbrev D.vR (ls:List (List Cel)):D:=.sl 1 ls.length (ls.map X46)
abbrev X4a (r:List Cel):List Int:=r.map Prod.fst
theorem XFq {r:List Cel} {i:Nat} {x:Cel} (h:r[i]?=some x):(r.take (i+1)).map Prod.fst=(r.take i).map Prod.fst++[x.1]:=by
 rw [List.take_add_one,h,List.map_append];rfl
def X0g:List (Int×Int):=[(-2147483648,31),(127,159),(768,879),(8203,8207),(65024,65039),(1114112,2147483647),(55296,57343)]
def X0J:List (Int×Int):=[(4352,4447),(11904,12350),(12353,13311),(13312,19903),(19968,40959),(40960,42191),(44032,55203),(63744,64255),(65072,65135),(65280,65376),(65504,65510),(127744,128591),(129280,129535),(131072,262141)]
theorem XFr {α:Type} {P:α→Prop} {l:List α} {c:α} (h:∀ x∈l,P x) (hc:P c):∀ x∈l++[c],P x:=by
 intro x hx
 rcases List.mem_append.1 hx with h1 | h1
 · exact h x h1
 · rw [List.mem_singleton]at h1;subst h1;exact hc
end Go.Vai
namespace Go.Vai
open Go.Nfa
abbrev H3:=Int×Int×Int
def lnT (t:List (List Int)) (n:Nat):List Int:=t.getD n []
section
variable (t:List (List Int)) (N:Nd)
def XCH (n a:Nat):List H3:=if 0<atR (lnT t n) N ((a:Nat):Int)then[((n:Int),(a:Int),atR (lnT t n) N ((a:Nat):Int))]else[]
def X4u (n a d:Nat):List H3:=(List.range d).flatMap fun i=>XCH t N n (a+i)
def X64 (n:Nat) (a:Int):List H3:=X4u t N n (max a 0).toNat ((lnT t n).length - (max a 0).toNat)
def X76 (n b:Nat):List H3:=(List.range b).reverse.flatMap (XCH t N n)
def X1A (a d:Nat):List H3:=(List.range d).flatMap fun i=>X64 t N (a+i) 0
def X1l (a d:Nat):List H3:=(List.range d).reverse.flatMap fun i=>X76 t N (a+i) (lnT t (a+i)).length
def X4V:List H3:=X1A t N 0 t.length
def X47 (so:Int) (k:Nat):Int:=if k=0 then so+1 else 0
def XAK (sl:Nat) (so:Int) (k:Nat):List H3:=(List.range (t.length+1 - k)).flatMap fun j=>X64 t N ((sl+(k+j)) % t.length) (X47 so (k+j))
def nB (m sl k:Nat):Nat:=(((sl:Int) - (k:Int)) % (m:Int)).toNat
def XHq (so:Int) (n k:Nat):Nat:=(min (max (if k=0 then so else((lnT t n).length:Int)) 0) ((lnT t n).length:Int)).toNat
def XAL (sl:Nat) (so:Int) (k:Nat):List H3:=(List.range (t.length+1 - k)).flatMap fun j=>X76 t N (nB t.length sl (k+j)) (XHq t so (nB t.length sl (k+j)) (k+j))
end
variable {t:List (List Int)} {N:Nd}
theorem app2 {α:Type} {a b c d:List α} (h:a=c) (k:b=d):a++b=c++d:=by subst h;subst k;rfl
theorem X0X {α:Type} {f g:Nat→List α} {n:Nat} (h:∀ i,i<n→f i=g i):(List.range n).flatMap f=(List.range n).flatMap g:=by
 induction n with
 | zero=>rfl
 | succ n ih=>rw [List.range_succ,List.flatMap_append,List.flatMap_append,ih fun i hi=>h i (by omega)];simp [h n (by omega)]
theorem X2D {α:Type} {f:Nat→List α} (m n:Nat):(List.range (m+n)).flatMap f=(List.range m).flatMap f++(List.range n).flatMap fun i=>f (m+i):=by
 rw [List.range_add,List.flatMap_append,List.flatMap_map]
theorem X3n {α:Type} {f:Nat→List α} (n:Nat):(List.range (n+1)).flatMap f=f 0++(List.range n).flatMap fun i=>f (i+1):=by
 rw [Nat.add_comm,X2D]
 congr 1
 · simp
 · exact X0X fun i _=>by rw [Nat.add_comm]
theorem X65 (n a d:Nat):X4u t N n a (d+1)=XCH t N n a++X4u t N n (a+1) d:=by
 unfold X4u
 rw [X3n]
 congr 1
 exact X0X fun i _=>by rw [show a+(i+1)=a+1+i by omega]
theorem X5m (n a d e:Nat):X4u t N n a (d+e)=X4u t N n a d++X4u t N n (a+d) e:=by
 unfold X4u
 rw [X2D]
 congr 1
 exact X0X fun i _=>by rw [Nat.add_assoc]
theorem X2o (a d e:Nat):X1A t N a (d+e)=X1A t N a d++X1A t N (a+d) e:=by
 unfold X1A
 rw [X2D]
 congr 1
 exact X0X fun i _=>by rw [Nat.add_assoc]
def toN:Option H3→XKt
 | some h=>(h.2.1,h.2.2,true)
 | none=>(0,0,false)
theorem XFs (n:Nat) (a:Int):X9J (lnT t n) N a=toN (X64 t N n a).head?:=by
 unfold X9J X64
 generalize (max a 0).toNat=i
 generalize (lnT t n).length - i=d
 induction d generalizing i with
 | zero=>rfl
 | succ d ih =>
  rw [X65,X54]
  unfold XCH
  split
  · rfl
  · rw [List.nil_append];exact ih (i+1)
theorem XFt (n:Nat) (b:Int):X9K (lnT t n) N b=toN (X76 t N n (min (max b 0) ((lnT t n).length:Int)).toNat).head?:=by
 unfold X9K X76
 generalize (min (max b 0) ((lnT t n).length:Int)).toNat=i
 induction i with
 | zero=>rfl
 | succ i ih =>
  rw [X5d,List.range_succ,List.reverse_append,List.flatMap_append]
  simp only [List.reverse_singleton,List.flatMap_singleton]
  unfold XCH
  split
  · rfl
  · rw [List.nil_append];exact ih
theorem X66 {sl k:Nat} {so:Int} (h:k≤t.length):XAK t N sl so k=X64 t N ((sl+k) % t.length) (X47 so k)++XAK t N sl so (k+1):=by
 unfold XAK
 rw [show t.length+1 - k=(t.length - k)+1 by omega,X3n,show t.length+1 - (k+1)=t.length - k by omega,Nat.add_zero]
 exact congrArg _ (X0X fun i _=>by rw [show k+(i+1)=k+1+i by omega])
theorem XFu {sl k:Nat} {so:Int} (h:¬ k≤t.length):XAK t N sl so k=[]:=by
 unfold XAK
 rw [show t.length+1 - k=0 by omega];rfl
theorem X67 {sl k:Nat} {so:Int} (h:k≤t.length):XAL t N sl so k=X76 t N (nB t.length sl k) (XHq t so (nB t.length sl k) k)++XAL t N sl so (k+1):=by
 unfold XAL
 rw [show t.length+1 - k=(t.length - k)+1 by omega,X3n,show t.length+1 - (k+1)=t.length - k by omega,Nat.add_zero]
 exact congrArg _ (X0X fun i _=>by rw [show k+(i+1)=k+1+i by omega])
theorem XFv {sl k:Nat} {so:Int} (h:¬ k≤t.length):XAL t N sl so k=[]:=by
 unfold XAL
 rw [show t.length+1 - k=0 by omega];rfl
theorem X84 {n a:Nat} {h:H3} (m:h∈XCH t N n a):h.1=n∧h.2.1=a:=by
 unfold XCH at m
 split at m
 · rw [List.mem_singleton]at m;subst m;exact⟨rfl,rfl⟩
 · cases m
theorem X2e {n a d:Nat} {h:H3} (m:h∈X4u t N n a d):h.1=n∧(a:Int)≤h.2.1∧h.2.1<(a+d:Nat):=by
 obtain⟨i,hi,k⟩:=List.mem_flatMap.1 m
 have hi:=List.mem_range.1 hi
 obtain⟨q1,q2⟩:=X84 k
 omega
theorem X3o {a d:Nat} {h:H3} (m:h∈X1A t N a d):(a:Int)≤h.1∧h.1<(a+d:Nat)∧0≤h.2.1:=by
 obtain⟨i,hi,k⟩:=List.mem_flatMap.1 m
 have hi:=List.mem_range.1 hi
 obtain⟨q1,q2,_⟩:=X2e k
 omega
theorem X85 {n b:Nat} {h:H3} (m:h∈X76 t N n b):h.1=n∧0≤h.2.1∧h.2.1<(b:Int):=by
 obtain⟨i,hi,k⟩:=List.mem_flatMap.1 m
 have hi:=List.mem_range.1 (List.mem_reverse.1 hi)
 obtain⟨q1,q2⟩:=X84 k
 omega
theorem X7U {a d:Nat} {h:H3} (m:h∈X1l t N a d):(a:Int)≤h.1∧h.1<(a+d:Nat):=by
 obtain⟨i,hi,k⟩:=List.mem_flatMap.1 m
 have hi:=List.mem_range.1 (List.mem_reverse.1 hi)
 obtain⟨q1,_⟩:=X85 k
 omega
theorem X2p {p:H3→Bool} {l:List H3} (h:∀ x∈l,p x=false):l.find? p=none:=List.find?_eq_none.2 fun x hx=>by rw [h x hx];simp
theorem X1r {p:H3→Bool} {l:List H3} (h:∀ x∈l,p x=true):l.find? p=l.head?:=by
 cases l with
 | nil=>rfl
 | cons x l=>rw [List.find?_cons_of_pos (h x (by simp))];rfl
theorem X5n {l m:List H3}:(l++m).head?=l.head?.or m.head?:=by cases l<;>simp
theorem XIh {a:Option H3}:a.or a=a:=by cases a<;>rfl
def pF (o:Bool) (s:Int×Int) (h:H3):Bool:=o || decide (s.1<h.1) || (decide (h.1=s.1) && decide (s.2<h.2.1))
theorem pF_o {s:Int×Int} {h:H3} {o:Bool} (e:o=true):pF o s h=true:=by subst e;simp [pF]
theorem XFw {s:Int×Int} {h:H3} {o:Bool} (e:s.1<h.1∨(h.1=s.1∧s.2<h.2.1)):pF o s h=true:=by
 unfold pF;rcases e with e | ⟨e1,e2⟩
 · simp [e]
 · simp [e1,e2]
theorem XIi {s:Int×Int} {h:H3} {o:Bool} (e:o=false) (k:¬ (s.1<h.1∨(h.1=s.1∧s.2<h.2.1))):pF o s h=false:=by
 subst e
 unfold pF
 simp only [not_or,not_and]at k
 by_cases e1:h.1=s.1
 · simp [e1,k.2 e1]
 · simp [k.1,e1]
theorem XD9 {sl:Nat} {so:Int} (hsl:sl<t.length):XAK t N sl so 0=X64 t N sl (so+1)++X1A t N (sl+1) (t.length - (sl+1))++X1A t N 0 (sl+1):=by
 rw [X66 (Nat.zero_le _),Nat.add_zero,Nat.mod_eq_of_lt hsl,show X47 so 0=so+1 from if_pos rfl,List.append_assoc]
 refine congrArg _ ?_
 unfold XAK
 rw [show t.length+1 - (0+1)=(t.length - (sl+1))+(sl+1)by omega,X2D]
 unfold X1A
 refine app2 ?_ ?_
 ·
  refine X0X fun i hi=>?_
  rw [show X47 so (0+1+i)=0 from if_neg (by omega),show(sl+(0+1+i)) % t.length=sl+1+i from by rw [Nat.mod_eq_of_lt (by omega)];omega]
 ·
  refine X0X fun i hi=>?_
  rw [show X47 so (0+1+(t.length - (sl+1)+i))=0 from if_neg (by omega),show(sl+(0+1+(t.length - (sl+1)+i)))=t.length+i by omega,Nat.add_mod_left,Nat.mod_eq_of_lt (by omega),Nat.zero_add]
theorem X8x {sl:Nat} (hsl:sl<t.length):X4V t N=X1A t N 0 sl++X64 t N sl 0++X1A t N (sl+1) (t.length - (sl+1)):=by
 unfold X4V
 rw [show t.length=sl+(1+(t.length - (sl+1)))by omega,X2o,X2o,← List.append_assoc]
 congr 1
 ·
  congr 1
  unfold X1A
  simp
 · rw [Nat.zero_add];congr 1;omega
theorem XDA {n:Nat} {so:Int} (h : -1≤so):∃ pre,X64 t N n 0=pre++X64 t N n (so+1)∧∀ x∈pre,x.1=n∧x.2.1≤so:=by
 obtain⟨a,ha⟩:∃ a:Nat,so+1=(a:Int):=⟨(so+1).toNat,by omega⟩
 unfold X64
 rw [show(max (so+1) 0).toNat=a by omega,show(max (0:Int) 0).toNat=0 from rfl,Nat.sub_zero]
 by_cases k:a≤(lnT t n).length
 ·
  refine⟨X4u t N n 0 a,?_,fun x hx=>?_⟩
  ·
   have:=X5m (t:=t) (N:=N) n 0 a ((lnT t n).length - a)
   rw [show a+((lnT t n).length - a)=(lnT t n).length by omega,Nat.zero_add]at this
   exact this
  ·
   obtain⟨q1,q2,q3⟩:=X2e hx
   omega
 ·
  refine⟨X4u t N n 0 (lnT t n).length,?_,fun x hx=>?_⟩
  ·
   rw [show(lnT t n).length - a=0 by omega]
   simp [X4u]
  ·
   obtain⟨q1,q2,q3⟩:=X2e hx
   omega
theorem XBA {n:Nat} {a:Int} {h:H3} (m:h∈X64 t N n a):h.1=n∧a≤h.2.1∧0≤h.2.1:=by
 obtain⟨q1,q2,q3⟩:=X2e m
 omega
theorem XDB {sl:Nat} {so:Int} (hsl:sl<t.length) (hso : -1≤so):(XAK t N sl so 0).head?=((X4V t N).find? (pF false ((sl:Int),so))).or (X4V t N).head?:=by
 obtain⟨pre,hp,hpre⟩:=XDA (t:=t) (N:=N) (n:=sl) hso
 have hA:=X8x (t:=t) (N:=N) hsl
 have hfind:(X4V t N).find? (pF false ((sl:Int),so))=(X64 t N sl (so+1)++X1A t N (sl+1) (t.length - (sl+1))).head?:=by
  rw [hA,hp,List.find?_append,List.find?_append,List.find?_append]
  rw [X2p (l:=X1A t N 0 sl) fun x hx=>by obtain⟨q1,q2,q3⟩:=X3o hx;exact XIi rfl (by simp only;omega)]
  rw [X2p (l:=pre) fun x hx=>by obtain⟨q1,q2⟩:=hpre x hx;exact XIi rfl (by simp only;omega)]
  rw [X1r (l:=X64 t N sl (so+1)) fun x hx=>by obtain⟨q1,q2,q3⟩:=XBA hx;exact XFw (by simp only;omega)]
  rw [X1r (l:=X1A t N (sl+1) (t.length - (sl+1))) fun x hx=>by obtain⟨q1,q2,q3⟩:=X3o hx;exact XFw (by simp only;omega)]
  rw [Option.none_or,Option.none_or,X5n]
 rw [hfind,XD9 hsl,X5n]
 cases ha:(X64 t N sl (so+1)++X1A t N (sl+1) (t.length - (sl+1)))with
 | cons x l=>rfl
 | nil =>
  obtain⟨e1,e2⟩:=List.append_eq_nil_iff.1 ha
  rw [hA,e2,List.append_nil]
  have:X1A t N 0 (sl+1)=X1A t N 0 sl++X64 t N sl 0:=by
   rw [X2o];congr 1;unfold X1A;simp
  rw [this]
def qB (o:Bool) (s:Int×Int) (h:H3):Bool:=o || decide (h.1<s.1) || (decide (h.1=s.1) && decide (h.2.1<s.2))
theorem qB_o {s:Int×Int} {h:H3} {o:Bool} (e:o=true):qB o s h=true:=by subst e;simp [qB]
theorem XFx {s:Int×Int} {h:H3} {o:Bool} (e:h.1<s.1∨(h.1=s.1∧h.2.1<s.2)):qB o s h=true:=by
 unfold qB;rcases e with e | ⟨e1,e2⟩
 · simp [e]
 · simp [e1,e2]
theorem XIj {s:Int×Int} {h:H3} {o:Bool} (e:o=false) (k:¬ (h.1<s.1∨(h.1=s.1∧h.2.1<s.2))):qB o s h=false:=by
 subst e
 unfold qB
 simp only [not_or,not_and]at k
 by_cases e1:h.1=s.1
 ·
  have:=k.2 e1
  rw [e1]at k
  simp [e1,this]
 · simp [k.1,e1]
theorem XFy (n a:Nat):(XCH t N n a).reverse=XCH t N n a:=by unfold XCH;split<;>rfl
theorem X86 (n d:Nat):(X4u t N n 0 d).reverse=X76 t N n d:=by
 unfold X4u X76
 rw [List.reverse_flatMap]
 congr 1
 funext i
 simp [XFy]
theorem XBB (n:Nat):(X64 t N n 0).reverse=X76 t N n (lnT t n).length:=by
 unfold X64
 rw [show(max (0:Int) 0).toNat=0 from rfl,Nat.sub_zero,X86]
theorem X2q (a d:Nat):(X1A t N a d).reverse=X1l t N a d:=by
 unfold X1A X1l
 rw [List.reverse_flatMap]
 congr 1
 funext i
 simp [XBB]
theorem XCI (a d e:Nat):X1l t N a (d+e)=X1l t N (a+d) e++X1l t N a d:=by
 rw [← X2q,X2o,List.reverse_append,X2q,X2q]
theorem XCJ (a:Nat):X1l t N a 1=X76 t N a (lnT t a).length:=by unfold X1l;simp
theorem XCK {n:Nat} {b:Nat} (h:b≤(lnT t n).length):∃ post,X76 t N n (lnT t n).length=post++X76 t N n b∧∀ x∈post,x.1=n∧(b:Int)≤x.2.1:=by
 refine⟨(X4u t N n b ((lnT t n).length - b)).reverse,?_,fun x hx=>?_⟩
 ·
  rw [← X86,← X86,← List.reverse_append]
  have:=X5m (t:=t) (N:=N) n 0 b ((lnT t n).length - b)
  rw [show b+((lnT t n).length - b)=(lnT t n).length by omega,Nat.zero_add]at this
  rw [this]
 ·
  obtain⟨q1,q2,_⟩:=X2e (List.mem_reverse.1 hx)
  exact⟨q1,q2⟩
theorem XL7 {m sl k:Nat} (h:k≤sl) (hs:sl<m):nB m sl k=sl - k:=by
 unfold nB
 rw [show((sl:Int) - (k:Int))=((sl - k:Nat):Int)by omega,← Int.natCast_emod,Int.toNat_natCast,Nat.mod_eq_of_lt (by omega)]
theorem nB_hi {m sl k:Nat} (h:sl<k) (hk:k≤m):nB m sl k=m+sl - k:=by
 unfold nB
 rw [← Int.add_emod_right,show((sl:Int) - (k:Int)+(m:Int))=((m+sl - k:Nat):Int)by omega,← Int.natCast_emod,Int.toNat_natCast,Nat.mod_eq_of_lt (by omega)]
theorem nB_lt {m sl k:Nat} (h:0<m):nB m sl k<m:=by
 unfold nB
 have h1:=Int.emod_nonneg ((sl:Int) - (k:Int)) (show(m:Int)≠0 by omega)
 have h2:=Int.emod_lt_of_pos ((sl:Int) - (k:Int)) (show(0:Int)<(m:Int)by omega)
 omega
theorem X68 {α:Type} {f:Nat→List α}:∀ (n:Nat),(List.range n).flatMap (fun i=>f (n - 1 - i))=(List.range n).reverse.flatMap f:=by
 intro n
 induction n with
 | zero=>rfl
 | succ n ih =>
  rw [X3n,List.range_succ,List.reverse_append,List.flatMap_append,← ih]
  congr 1
  · simp
  · exact X0X fun i hi=>by rw [show n+1 - 1 - (i+1)=n - 1 - i by omega]
theorem XDC {sl:Nat} {so:Int} (hsl:sl<t.length) (h0:0≤so) (h1:so≤((lnT t sl).length:Int)):XAL t N sl so 0=X76 t N sl so.toNat++X1l t N 0 sl++X1l t N sl (t.length - sl):=by
 rw [X67 (Nat.zero_le _),XL7 (Nat.zero_le _) hsl,Nat.sub_zero,List.append_assoc,show XHq t so sl 0=so.toNat by unfold XHq;rw [if_pos rfl];congr 1;omega]
 refine congrArg _ ?_
 have hb:∀ n k,k≠0→XHq t so n k=(lnT t n).length:=fun n k hk=>by unfold XHq;rw [if_neg hk];omega
 unfold XAL
 rw [show t.length+1 - (0+1)=sl+(t.length - sl)by omega,X2D]
 refine app2 ?_ ?_
 ·
  unfold X1l
  rw [← X68]
  refine X0X fun i hi=>?_
  rw [XL7 (by omega) hsl,hb _ _ (by omega),show sl - (0+1+i)=0+(sl - 1 - i)by omega]
 ·
  unfold X1l
  rw [← X68]
  refine X0X fun i hi=>?_
  rw [nB_hi (by omega) (by omega),hb _ _ (by omega),show t.length+sl - (0+1+(sl+i))=sl+(t.length - sl - 1 - i)by omega]
theorem XDD {sl:Nat} {so:Int} (hsl:sl<t.length) (h0:0≤so) (h1:so≤((lnT t sl).length:Int)):(XAL t N sl so 0).head?=((X4V t N).reverse.find? (qB false ((sl:Int),so))).or (X4V t N).reverse.head?:=by
 obtain⟨post,hp,hpost⟩:=XCK (t:=t) (N:=N) (n:=sl) (b:=so.toNat) (by omega)
 have hA:(X4V t N).reverse=X1l t N (sl+1) (t.length - (sl+1))++(post++X76 t N sl so.toNat)++X1l t N 0 sl:=by
  rw [X8x hsl,List.reverse_append,List.reverse_append,X2q,XBB,X2q,hp]
  simp only [List.append_assoc]
 have hfind:(X4V t N).reverse.find? (qB false ((sl:Int),so))=(X76 t N sl so.toNat++X1l t N 0 sl).head?:=by
  rw [hA,List.find?_append,List.find?_append,List.find?_append]
  rw [X2p (l:=X1l t N (sl+1) (t.length - (sl+1))) fun x hx=>by obtain⟨q1,q2⟩:=X7U hx;exact XIj rfl (by simp only;omega)]
  rw [X2p (l:=post) fun x hx=>by obtain⟨q1,q2⟩:=hpost x hx;exact XIj rfl (by simp only;omega)]
  rw [X1r (l:=X76 t N sl so.toNat) fun x hx=>by obtain⟨q1,q2,q3⟩:=X85 hx;exact XFx (by simp only;omega)]
  rw [X1r (l:=X1l t N 0 sl) fun x hx=>by obtain⟨q1,q2⟩:=X7U hx;exact XFx (by simp only;omega)]
  rw [Option.none_or,Option.none_or,X5n]
 rw [hfind,XDC hsl h0 h1,X5n]
 cases ha:(X76 t N sl so.toNat++X1l t N 0 sl)with
 | cons x l=>rfl
 | nil =>
  obtain⟨e1,e2⟩:=List.append_eq_nil_iff.1 ha
  rw [hA,e2,List.append_nil,e1,List.append_nil]
  have:X1l t N sl (t.length - sl)=X1l t N (sl+1) (t.length - (sl+1))++post:=by
   rw [show t.length - sl=1+(t.length - (sl+1))by omega,XCI,XCJ,hp,e1,List.append_nil]
  rw [this]
end Go.Vai
namespace Go.Vai
open Go.Nfa
abbrev tOf (ls:List (List Cel)):List (List Int):=ls.map X4a
theorem XDE (ls:List (List Cel)) (n:Nat):lnT (tOf ls) n=X4a (ls.getD n []):=by
 unfold lnT
 rw [List.getD_eq_getElem?_getD,List.getD_eq_getElem?_getD,List.getElem?_map]
 cases ls[n]?<;>rfl
theorem X69 (ls:List (List Cel)) (n:Nat):(lnT (tOf ls) n).length=(ls.getD n []).length:=by rw [XDE,List.length_map]
theorem X1E (ls:List (List Cel)):(tOf ls).length=ls.length:=List.length_map _
theorem X2l {α:Type} {l:List (List α)} {c:Nat} (h:∀ x∈l,x.length≤c) (i:Nat):(l.getD i []).length≤c:=by
 rw [List.getD_eq_getElem?_getD]
 cases e:l[i]? with
 | none=>exact Nat.zero_le _
 | some x=>exact h x (List.mem_of_getElem? e)
theorem XHr {ls:List (List Cel)} {c:Nat} (h:∀ x∈ls,x.length≤c):∀ x∈tOf ls,x.length≤c:=by
 intro x hx
 obtain⟨y,hy,rfl⟩:=List.mem_map.1 hx
 rw [List.length_map];exact h y hy
def X2E (h:H3):List D:=[.int .i64 h.1,.int .i64 h.2.1,.int .i64 h.2.2]
theorem XBC (h:H3):(X2E h).length=3:=rfl
theorem XBD {r:List H3} {i:Nat} {x:H3} (h:r[i]?=some x):((r.flatMap X2E).drop (i*3)).take 3=[.int .i64 x.1,.int .i64 x.2.1,.int .i64 x.2.2]:=X0v XBC h
theorem XFz {t:List (List Int)} {N:Nd} {n a:Nat} (h:0<atR (t.getD n []) N ((a:Nat):Int)):X4u t N n 0 (a+1)=X4u t N n 0 a++[((n:Int),(a:Int),atR (t.getD n []) N ((a:Nat):Int))]:=by
 rw [X5m,Nat.zero_add]
 congr 1
 unfold X4u
 simp only [List.range_one,List.flatMap_singleton,Nat.add_zero]
 exact if_pos h
theorem XDF {t:List (List Int)} {N:Nd} {n a:Nat} (h:¬ 0<atR (t.getD n []) N ((a:Nat):Int)):X4u t N n 0 (a+1)=X4u t N n 0 a:=by
 rw [X5m,Nat.zero_add]
 have:X4u t N n a 1=[]:=by
  unfold X4u
  simp only [List.range_one,List.flatMap_singleton,Nat.add_zero]
  exact if_neg h
 rw [this,List.append_nil]
theorem X4v {t:List (List Int)} {N:Nd} {i a:Nat} (h:a=(t.getD i []).length):X1A t N 0 (i+1)=X1A t N 0 i++X4u t N i 0 a:=by
 subst h
 rw [X2o]
 congr 1
 unfold X1A X64
 simp only [List.range_one,List.flatMap_singleton,Nat.zero_add,Nat.add_zero]
 rfl
theorem XG0 {t:List (List Int)} {N:Nd} {out:List H3} {i n:Nat} (h:out=X1A t N 0 i) (hn:out.length=n) (hi:i=t.length):D.sl 3 n (out.flatMap X2E)=.sl 3 (X4V t N).length ((X4V t N).flatMap X2E):=by
 subst h;subst hn;subst hi;rfl
theorem XIk (t:List (List Int)) (N:Nd) (n a:Nat):(XCH t N n a).length≤1:=by unfold XCH;split<;>simp
theorem X6A (t:List (List Int)) (N:Nd) (n:Nat):∀ (d a:Nat),(X4u t N n a d).length≤d:=by
 intro d
 induction d with
 | zero=>intro a;exact Nat.le_refl _
 | succ d ih =>
  intro a
  rw [X65,List.length_append]
  have:=XIk t N n a
  have:=ih (a+1)
  omega
theorem XG1 {t:List (List Int)} {N:Nd} (h:∀ x∈t,x.length≤40):∀ d,(X1A t N 0 d).length≤40*d:=by
 intro d
 induction d with
 | zero=>exact Nat.le_refl _
 | succ d ih =>
  rw [X4v (a:=(t.getD d []).length) rfl,List.length_append]
  have:=X6A t N d (t.getD d []).length 0
  have:=X2l h d
  omega
theorem XL8 {t:List (List Int)} {N:Nd} (hc:t.length≤10) (h:∀ x∈t,x.length≤40):(X4V t N).length≤400:=by
 have:=XG1 (N:=N) h t.length
 unfold X4V
 omega
def XG2:Option H3→D
 | some h=>.tup [.agg [.int .i64 h.1,.int .i64 h.2.1,.int .i64 h.2.2],.bool true]
 | none=>.tup [.agg [.int .i64 0,.int .i64 0,.int .i64 0],.bool false]
def inB (ls:List (List Cel)) (s:Int×Int):Bool:=decide (0≤s.1∧s.1<(ls.length:Int)∧0≤s.2∧s.2≤((ls.getD s.1.toNat []).length:Int))
theorem XIl {ls:List (List Cel)} {s:Int×Int} (h:¬ (0≤s.1∧s.1<(ls.length:Int)∧0≤s.2∧s.2≤((ls.getD s.1.toNat []).length:Int))):false=inB ls s:=(decide_eq_false h).symm
theorem inB_d {ls:List (List Cel)} {s:Int×Int} {p:Prop} [Decidable p] (h:p↔(0≤s.1∧s.1<(ls.length:Int)∧0≤s.2∧s.2≤((ls.getD s.1.toNat []).length:Int))):decide p=inB ls s:=decide_eq_decide.2 h
theorem XIm {l:List Cel} {out:List Int} {i n:Nat} (h:out=(l.take i).map Prod.fst) (hn:out.length=n) (hi:l.length≤i):D.sl 1 n (out.map (D.int .i32))=.sl 1 (X4a l).length ((X4a l).map (D.int .i32)):=by
 rw [List.take_of_length_le hi]at h
 subst h;subst hn;rfl
theorem XG3 {ls:List (List Cel)} {s:Int×Int} (h:inB ls s=true):0≤s.1∧s.1<(ls.length:Int)∧0≤s.2∧s.2≤((ls.getD s.1.toNat []).length:Int):=of_decide_eq_true h
def XG4 (ls:List (List Cel)) (N:Nd) (s:Int×Int):Option H3:=if ls.length=0 then none else(XAK (tOf ls) N (if inB ls s then s.1.toNat else 0) (if inB ls s then s.2 else -1) 0).head?
def XDG (ls:List (List Cel)):Int:=((ls.getD (ls.length - 1) []).length:Int)
def XG5 (ls:List (List Cel)) (N:Nd) (s:Int×Int):Option H3:=if ls.length=0 then none else(XAL (tOf ls) N (if inB ls s then s.1.toNat else ls.length - 1) (if inB ls s then s.2 else XDG ls) 0).head?
def X4W (ls:List (List Cel)) (N:Nd) (s:Int×Int):Bool→Option H3
 | true=>((X4V (tOf ls) N).reverse.find? (qB (!inB ls s) s)).or (X4V (tOf ls) N).reverse.head?
 | false=>((X4V (tOf ls) N).find? (pF (!inB ls s) s)).or (X4V (tOf ls) N).head?
theorem all_nil {ls:List (List Cel)} {N:Nd} (h:ls.length=0):X4V (tOf ls) N=[]:=by
 unfold X4V
 rw [X1E,h];rfl
theorem XDH (ls:List (List Cel)) (N:Nd) (s:Int×Int):XG4 ls N s=X4W ls N s false:=by
 unfold XG4 X4W
 by_cases h0:ls.length=0
 · rw [if_pos h0,all_nil h0];rfl
 rw [if_neg h0]
 cases hi:inB ls s with
 | true =>
  obtain⟨h1,h2,h3,h4⟩:=XG3 hi
  have e:((s.1.toNat:Int),s.2)=s:=by rw [Int.toNat_of_nonneg h1]
  simp only [if_true,Bool.not_true]
  rw [XDB (by rw [X1E];omega) (by omega),e]
 | false =>
  simp only [Bool.false_eq_true,if_false,Bool.not_false]
  rw [XDB (by rw [X1E];omega) (Int.le_refl _)]
  rw [X1r (p:=pF false (((0:Nat):Int),-1)) (l:=X4V (tOf ls) N) fun x hx=>by obtain⟨q1,q2,q3⟩:=X3o hx;exact XFw (by simp only;omega)]
  rw [X1r (p:=pF true s) (l:=X4V (tOf ls) N) fun x hx=>pF_o rfl]
theorem XBE {t:List (List Int)} {N:Nd} {h:H3} (m:h∈X4V t N):∃ n:Nat,n<t.length∧h.1=n∧0≤h.2.1∧h.2.1<((lnT t n).length:Int):=by
 obtain⟨i,hi,k⟩:=List.mem_flatMap.1 m
 have hi:=List.mem_range.1 hi
 obtain⟨q1,q2,q3⟩:=X2e k
 refine⟨0+i,by omega,q1,by omega,?_⟩
 have:(max (0:Int) 0).toNat=0:=rfl
 rw [this]at q3
 omega
theorem XL9 (ls:List (List Cel)) (N:Nd) (s:Int×Int):XG5 ls N s=X4W ls N s true:=by
 unfold XG5 X4W
 by_cases h0:ls.length=0
 · rw [if_pos h0,all_nil h0];rfl
 rw [if_neg h0]
 cases hi:inB ls s with
 | true =>
  obtain⟨h1,h2,h3,h4⟩:=XG3 hi
  have e:((s.1.toNat:Int),s.2)=s:=by rw [Int.toNat_of_nonneg h1]
  simp only [if_true,Bool.not_true]
  rw [XDD (by rw [X1E];omega) h3 (by rw [X69];exact h4),e]
 | false =>
  simp only [Bool.false_eq_true,if_false,Bool.not_false]
  rw [XDD (sl:=ls.length - 1) (so:=XDG ls) (by rw [X1E];omega) (Int.natCast_nonneg _) (by rw [X69];exact Int.le_refl _)]
  rw [X1r (p:=qB true s) (l:=(X4V (tOf ls) N).reverse) fun x hx=>qB_o rfl]
  rw [X1r (p:=qB false (((ls.length - 1:Nat):Int),XDG ls)) (l:=(X4V (tOf ls) N).reverse) fun x hx=>?_]
  obtain⟨n,q0,q1,q2,q3⟩:=XBE (List.mem_reverse.1 hx)
  rw [X1E]at q0
  refine XFx ?_
  unfold XDG
  simp only
  by_cases e:n=ls.length - 1
  ·
   subst e
   rw [X69]at q3
   exact .inr ⟨q1,q3⟩
  · exact .inl (by omega)
theorem XLA {ls:List (List Cel)} {N:Nd} {n:Nat} {a:Int}:(X9J (X4a (ls.getD n [])) N a=(0,0,false)∧X64 (tOf ls) N n a=[])∨∃ i q:Int,∃ tl,X9J (X4a (ls.getD n [])) N a=(i,q,true)∧X64 (tOf ls) N n a=((n:Int),i,q)::tl:=by
 have e:=XFs (t:=tOf ls) (N:=N) n a
 rw [XDE]at e
 cases h:X64 (tOf ls) N n a with
 | nil=>rw [h]at e;exact .inl ⟨e,rfl⟩
 | cons x tl =>
  rw [h]at e
  have hx:x.1=(n:Int):=(XBA (t:=tOf ls) (N:=N) (n:=n) (a:=a) (h:=x) (by rw [h];simp)).1
  refine .inr ⟨x.2.1,x.2.2,tl,e,?_⟩
  rw [← hx]
theorem XLB {ls:List (List Cel)} {N:Nd} {n:Nat} {b:Int}:(X9K (X4a (ls.getD n [])) N b=(0,0,false)∧X76 (tOf ls) N n (min (max b 0) ((ls.getD n []).length:Int)).toNat=[])∨∃ i q:Int,∃ tl,X9K (X4a (ls.getD n [])) N b=(i,q,true)∧X76 (tOf ls) N n (min (max b 0) ((ls.getD n []).length:Int)).toNat=((n:Int),i,q)::tl:=by
 have e:=XFt (t:=tOf ls) (N:=N) n b
 rw [XDE,List.length_map]at e
 cases h:X76 (tOf ls) N n (min (max b 0) ((ls.getD n []).length:Int)).toNat with
 | nil=>rw [h]at e;exact .inl ⟨e,rfl⟩
 | cons x tl =>
  rw [h]at e
  have hx:x.1=(n:Int):=(X85 (t:=tOf ls) (N:=N) (n:=n) (h:=x) (by rw [h];simp)).1
  refine .inr ⟨x.2.1,x.2.2,tl,e,?_⟩
  rw [← hx]
theorem XLC {ls:List (List Cel)} {N:Nd} {sl k n:Nat} {so a:Int} (hk:k≤ls.length) (hn:n=(sl+k) % ls.length) (ha:a=X47 so k) (h:X64 (tOf ls) N n a=[]):(XAK (tOf ls) N sl so k).head?=(XAK (tOf ls) N sl so (k+1)).head?:=by
 subst hn ha
 rw [X66 (by rw [X1E];exact hk),X1E,h,List.nil_append]
theorem XIn {ls:List (List Cel)} {N:Nd} {sl k n:Nat} {so a:Int} {x:H3} {tl:List H3} (hk:k≤ls.length) (hn:n=(sl+k) % ls.length) (ha:a=X47 so k) (h:X64 (tOf ls) N n a=x::tl):(XAK (tOf ls) N sl so k).head?=some x:=by
 subst hn ha
 rw [X66 (by rw [X1E];exact hk),X1E,h];rfl
theorem XHs {ls:List (List Cel)} {so b:Int} {n k:Nat} (hb:b=if k=0 then so else((ls.getD n []).length:Int)):XHq (tOf ls) so n k=(min (max b 0) ((ls.getD n []).length:Int)).toNat:=by
 subst hb
 unfold XHq
 rw [X69]
theorem XLD {ls:List (List Cel)} {N:Nd} {sl k n:Nat} {so b:Int} (hk:k≤ls.length) (hn:n=nB ls.length sl k) (hb:b=if k=0 then so else((ls.getD n []).length:Int)) (h:X76 (tOf ls) N n (min (max b 0) ((ls.getD n []).length:Int)).toNat=[]):(XAL (tOf ls) N sl so k).head?=(XAL (tOf ls) N sl so (k+1)).head?:=by
 rw [X67 (by rw [X1E];exact hk),X1E,← hn,XHs hb,h,List.nil_append]
theorem XIo {ls:List (List Cel)} {N:Nd} {sl k n:Nat} {so b:Int} {x:H3} {tl:List H3} (hk:k≤ls.length) (hn:n=nB ls.length sl k) (hb:b=if k=0 then so else((ls.getD n []).length:Int)) (h:X76 (tOf ls) N n (min (max b 0) ((ls.getD n []).length:Int)).toNat=x::tl):(XAL (tOf ls) N sl so k).head?=some x:=by
 rw [X67 (by rw [X1E];exact hk),X1E,← hn,XHs hb,h];rfl
theorem XIp {ls:List (List Cel)} {N:Nd} {sl k:Nat} {so:Int} (hk:¬ k≤ls.length):(XAK (tOf ls) N sl so k).head?=none:=by rw [XFu (by rw [X1E];exact hk)];rfl
theorem XIq {ls:List (List Cel)} {N:Nd} {sl k:Nat} {so:Int} (hk:¬ k≤ls.length):(XAL (tOf ls) N sl so k).head?=none:=by rw [XFv (by rw [X1E];exact hk)];rfl
section
variable {ls:List (List Cel)} {N:Nd} {s:Int×Int} {A:List H3} {o:Bool} (hA:A=X4V (tOf ls) N) (ho:o = !inB ls s)
include hA
theorem XIr (h:A.length=0) (b:Bool):X4W ls N s b=none:=by
 have:A=[]:=List.length_eq_zero_iff.1 h
 subst this
 unfold X4W
 cases b<;>simp only [← hA]<;>rfl
include ho
end
theorem XG6 {ls:List (List Cel)} {i:Nat} (h:i<ls.length):(tOf ls).take (i+1)=(tOf ls).take i++[X4a (ls.getD i [])]:=by
 rw [List.take_add_one,List.getElem?_map,List.getElem?_eq_getElem h,List.getD_eq_getElem?_getD,List.getElem?_eq_getElem h];rfl
theorem XIs {ls:List (List Cel)} {out:List (List Int)} {i n:Nat} (h:out=(tOf ls).take i) (hn:out.length=n) (hi:ls.length≤i):D.sl 1 n (out.map X38)=.sl 1 (tOf ls).length ((tOf ls).map X38):=by
 rw [List.take_of_length_le (by rw [X1E];exact hi)]at h
 subst h;subst hn;rfl
def oH1:Option H3→Int
 | some h=>h.1
 | none=>0
def oH2:Option H3→Int
 | some h=>h.2.1
 | none=>0
def oH3:Option H3→Int
 | some h=>h.2.2
 | none=>0
theorem XHt (X:Option H3):XG2 X=.tup [.agg [.int .i64 (oH1 X),.int .i64 (oH2 X),.int .i64 (oH3 X)],.bool X.isSome]:=by cases X<;>rfl
end Go.Vai
namespace Go.Vai
open Go.Nfa
def lt3 (x y:H3):Prop:=x.1<y.1∨(x.1=y.1∧x.2.1<y.2.1)
theorem XG7 (t:List (List Int)) (N:Nd) (n:Nat):∀ (d a:Nat),(X4u t N n a d).Pairwise lt3:=by
 intro d
 induction d with
 | zero=>intro a;exact List.Pairwise.nil
 | succ d ih =>
  intro a
  rw [X65,List.pairwise_append]
  refine⟨?_,ih (a+1),fun x hx y hy=>?_⟩
  ·
   unfold XCH;split
   · exact List.pairwise_singleton _ _
   · exact List.Pairwise.nil
  ·
   obtain⟨q1,q2⟩:=X84 hx
   obtain⟨p1,p2,p3⟩:=X2e hy
   exact .inr ⟨by omega,by omega⟩
theorem XCL (t:List (List Int)) (N:Nd):∀ d,(X1A t N 0 d).Pairwise lt3:=by
 intro d
 induction d with
 | zero=>exact List.Pairwise.nil
 | succ d ih =>
  rw [X4v (a:=(t.getD d []).length) rfl,List.pairwise_append]
  refine⟨ih,XG7 t N d _ 0,fun x hx y hy=>?_⟩
  obtain⟨q1,q2,q3⟩:=X3o hx
  obtain⟨p1,p2,p3⟩:=X2e hy
  exact .inl (by omega)
theorem XBF (t:List (List Int)) (N:Nd):(X4V t N).Pairwise lt3:=XCL t N _
theorem X5o {A:List H3} (h:A.Pairwise lt3) {i j:Nat} {x y:H3} (hx:A[i]?=some x) (hy:A[j]?=some y) (hij:i<j):lt3 x y:=by
 obtain⟨h1,e1⟩:=List.getElem?_eq_some_iff.1 hx
 obtain⟨h2,e2⟩:=List.getElem?_eq_some_iff.1 hy
 have:=List.pairwise_iff_getElem.1 h i j h1 h2 hij
 rwa [e1,e2]at this
theorem XCM {A:List H3} (h:A.Pairwise lt3) {i:Nat} {x:H3} (hx:A[i]?=some x):A.find? (pF false (x.1,x.2.1))=A[i+1]?:=by
 have hn:∀ y∈A.take (i+1),pF false (x.1,x.2.1) y=false:=fun y hy=>by
  obtain⟨j,hj⟩:=List.mem_iff_getElem?.1 hy
  rw [List.getElem?_take]at hj
  split at hj
  case isFalse=>cases hj
  rename_i hji
  refine XIi rfl ?_
  by_cases e:j=i
  ·
   subst e
   rw [hx]at hj;cases hj
   simp only;omega
  ·
   have:=X5o h hj hx (by omega)
   unfold lt3 at this
   simp only;omega
 have ha:∀ y∈A.drop (i+1),pF false (x.1,x.2.1) y=true:=fun y hy=>by
  obtain⟨j,hj⟩:=List.mem_iff_getElem?.1 hy
  rw [List.getElem?_drop]at hj
  have:=X5o h hx hj (by omega)
  unfold lt3 at this
  exact XFw (by simp only;omega)
 have e:A.find? (pF false (x.1,x.2.1))=(A.take (i+1)++A.drop (i+1)).find? (pF false (x.1,x.2.1)):=by rw [List.take_append_drop]
 rw [e,List.find?_append,X2p hn,Option.none_or,X1r ha,List.head?_drop]
theorem XAM {A:List H3} (h:A.Pairwise lt3) {i:Nat} {x:H3} (hx:A[i]?=some x):A.reverse.find? (qB false (x.1,x.2.1))=(A.take i).getLast?:=by
 have hn:∀ y∈(A.drop i).reverse,qB false (x.1,x.2.1) y=false:=fun y hy=>by
  obtain⟨j,hj⟩:=List.mem_iff_getElem?.1 (List.mem_reverse.1 hy)
  rw [List.getElem?_drop]at hj
  refine XIj rfl ?_
  by_cases e:j=0
  ·
   subst e
   rw [Nat.add_zero,hx]at hj;cases hj
   simp only;omega
  ·
   have:=X5o h hx hj (by omega)
   unfold lt3 at this
   simp only;omega
 have ha:∀ y∈(A.take i).reverse,qB false (x.1,x.2.1) y=true:=fun y hy=>by
  obtain⟨j,hj⟩:=List.mem_iff_getElem?.1 (List.mem_reverse.1 hy)
  rw [List.getElem?_take]at hj
  split at hj
  case isFalse=>cases hj
  have:=X5o h hj hx (by omega)
  unfold lt3 at this
  exact XFx (by simp only;omega)
 have e:A.reverse.find? (qB false (x.1,x.2.1))=((A.drop i).reverse++(A.take i).reverse).find? (qB false (x.1,x.2.1)):=by rw [← List.reverse_append,List.take_append_drop]
 rw [e,List.find?_append,X2p hn,Option.none_or,X1r ha,List.head?_reverse]
section
variable {ls:List (List Cel)} {N:Nd} {A:List H3} (hA:A=X4V (tOf ls) N)
include hA
theorem XHu {x:H3} (hx:x∈A):inB ls (x.1,x.2.1)=true:=by
 subst hA
 obtain⟨n,h1,h2,h3,h4⟩:=XBE hx
 rw [X1E]at h1
 rw [X69]at h4
 unfold inB
 simp only [h2,Int.toNat_natCast]
 exact decide_eq_true ⟨by omega,by omega,h3,by omega⟩
def S7 (A:List H3) (i:Nat) (z f:Int):Prop:=(i=0∧z = -1∧f=0)∨(0<i∧∃ y,A[(i - 1) % A.length]?=some y∧z=y.1∧f=y.2.1)
theorem X8y {i:Nat} {z f:Int} (h0:0<A.length) (hi:i≤A.length) (hs:S7 A i z f):X4W ls N (z,f) false=A[i % A.length]?:=by
 rcases hs with⟨rfl,rfl,rfl⟩ | ⟨h1,y,hy,rfl,rfl⟩
 ·
  have:inB ls (-1,0)=false:=decide_eq_false (by simp only;omega)
  unfold X4W
  simp only [← hA,this,Bool.not_false]
  rw [X1r (l:=A) fun x hx=>pF_o rfl,XIh,Nat.zero_mod,List.head?_eq_getElem?]
 ·
  rw [Nat.mod_eq_of_lt (by omega)]at hy
  have hb:=XHu hA (List.mem_of_getElem? hy)
  have hp:=XBF (tOf ls) N
  rw [← hA]at hp
  unfold X4W
  simp only [← hA,hb,Bool.not_true]
  rw [XCM hp hy,show i - 1+1=i by omega]
  by_cases e:i=A.length
  · rw [e,Nat.mod_self,List.getElem?_eq_none (Nat.le_refl _),Option.none_or,List.head?_eq_getElem?]
  ·
   rw [Nat.mod_eq_of_lt (by omega)]
   have hl:i<A.length:=by omega
   rw [List.getElem?_eq_getElem hl];rfl
theorem XDI {m:Nat} {x:H3} (hx:A[m]?=some x):X4W ls N (x.1,x.2.1) true=A[(m+A.length - 1) % A.length]?:=by
 have hm:=(List.getElem?_eq_some_iff.1 hx).1
 have hb:=XHu hA (List.mem_of_getElem? hx)
 have hp:=XBF (tOf ls) N
 rw [← hA]at hp
 unfold X4W
 simp only [← hA,hb,Bool.not_true]
 rw [XAM hp hx]
 by_cases e:m=0
 ·
  subst e
  rw [List.take_zero,List.getLast?_nil,Option.none_or,List.head?_reverse,List.getLast?_eq_getElem?,Nat.zero_add,Nat.mod_eq_of_lt (by omega)]
 ·
  rw [List.getLast?_eq_getElem?,List.length_take,Nat.min_eq_left (by omega),List.getElem?_take,if_pos (by omega),show m+A.length - 1=(m - 1)+A.length by omega,Nat.add_mod_right,Nat.mod_eq_of_lt (by omega)]
  rw [List.getElem?_eq_getElem (by omega)];rfl
theorem X8z {i:Nat} {z f:Int} (hi:i=if 0<A.length then A.length+1 else 0) (hs:S7 A i z f):(X4W ls N (z,f) false).isSome=decide (0<(A.length:Int)):=by
 by_cases h0:0<A.length
 ·
  rw [if_pos h0]at hi
  subst hi
  have hs':S7 A 1 z f:=by
   rcases hs with⟨h,_⟩ | ⟨_,y,hy,rfl,rfl⟩
   · omega
   ·
    rw [Nat.add_sub_cancel,Nat.mod_self]at hy
    exact .inr ⟨by omega,y,by rw [Nat.sub_self,Nat.zero_mod];exact hy,rfl,rfl⟩
  rw [X8y hA h0 (by omega) hs',decide_eq_true (by omega)]
  have:=Nat.mod_lt 1 h0
  rw [List.getElem?_eq_getElem this];rfl
 · rw [XIr hA (by omega),decide_eq_false (by omega)];rfl
end
theorem XIt {A:List H3} {i m:Nat} {x:H3} (hm:m=i % A.length) (hx:A[m]?=some x):S7 A (i+1) x.1 x.2.1:=.inr ⟨by omega,x,by rw [Nat.add_sub_cancel,← hm];exact hx,rfl,rfl⟩
end Go.Vai

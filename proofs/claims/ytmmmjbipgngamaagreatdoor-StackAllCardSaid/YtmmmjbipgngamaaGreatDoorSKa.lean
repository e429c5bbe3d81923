/-
  What is proved here: what was taken, as plain data, and what the walks of the stack's functions ask for. names of numbers, entries that go, as plain data. No conditions but those that the theorems state.
-/
import Derived.Test.YtmmmjbipgngamaaGreatDoorRY
import Derived.Test.YtmmmjbipgngamaaGreatDoorRI
import Derived.Lib.ItoaNum
set_option linter.unusedVariables false
set_option linter.unusedSimpArgs false
namespace Go.Vai
noncomputable section
theorem X8s {p q:Bool}:(bif p then(bif q then true else false)else(bif q then false else true))=decide (p=q):=by cases p<;>cases q<;>rfl
abbrev X0A:=ByteArray×ByteArray×Bool
def e0:X0A:=(ByteArray.empty,ByteArray.empty,false)
def X04 (e:X0A):List D:=[.str e.1,.str e.2.1,.bool e.2.2]
theorem X1u (e:X0A):(X04 e).length=3:=rfl
theorem X10 {l:List X0A} {i:Nat} (h:i<l.length):l[i]?=some (l.getD i e0):=getD_some h
theorem X3R {l:List X0A} {i:Nat} (h:i<l.length):((l.flatMap X04).drop (i*3)).take 3=[.str (l.getD i e0).1,.str (l.getD i e0).2.1,.bool (l.getD i e0).2.2]:=X7e (e:=3) X1u (X10 h)
theorem X23 {l:List X0A} {i k:Nat} {d:D} (h:i<l.length) (hk:k<3) (hd:[D.str (l.getD i e0).1,.str (l.getD i e0).2.1,.bool (l.getD i e0).2.2][k]?=some d):(l.flatMap X04)[i*3+k]?=some d:=by
 rw [← hd,← X3R h,List.getElem?_take,if_pos hk,List.getElem?_drop]
theorem X1F (l:List X0A):(l.flatMap X04).length=l.length*3:=by
 induction l with
 | nil=>rfl
 | cons a l ih=>rw [List.flatMap_cons,List.length_append,ih,X1u,List.length_cons];omega
theorem XDc (l m:List X0A):((l++m).flatMap X04).take (l.length*3)=l.flatMap X04:=by
 rw [List.flatMap_append,List.take_append_of_le_length (Nat.le_of_eq (X1F l).symm),List.take_of_length_le (Nat.le_of_eq (X1F l))]
def X0I (l:List X0A) (name:ByteArray):Int:=match l.findIdx? (fun e=>decide (e.1=name))with
 | some i=>((i:Nat):Int)
 | none => -1
theorem X7g {l:List X0A} {name:ByteArray} {i:Nat} (hi:i<l.length) (hn:∀ j,j<i→¬ (l.getD j e0).1=name) (h:(l.getD i e0).1=name):X0I l name=((i:Nat):Int):=by
 unfold X0I
 have:l.findIdx? (fun e=>decide (e.1=name))=some i:=by
  rw [List.findIdx?_eq_some_iff_getElem]
  refine⟨hi,?_,fun j hj=>?_⟩
  ·
   have:=Option.some.inj ((List.getElem?_eq_getElem hi).symm.trans (X10 hi))
   rw [this];exact decide_eq_true h
  ·
   have hj':j<l.length:=by omega
   have:=Option.some.inj ((List.getElem?_eq_getElem hj').symm.trans (X10 hj'))
   rw [this]
   simpa using hn j hj
 rw [this]
theorem X6J {l:List X0A} {name:ByteArray} {i:Nat} (hi:¬ ((i:Nat):Int)<((l.length:Nat):Int)) (hn:∀ j,j<i→¬ (l.getD j e0).1=name):X0I l name = -1:=by
 unfold X0I
 have:l.findIdx? (fun e=>decide (e.1=name))=none:=by
  rw [List.findIdx?_eq_none_iff]
  intro x hx
  obtain⟨j,hj,rfl⟩:=List.mem_iff_getElem.1 hx
  have:=Option.some.inj ((List.getElem?_eq_getElem hj).symm.trans (X10 hj))
  rw [this]
  simpa using hn j (by omega)
 rw [this]
theorem X6K {l:List X0A} {name:ByteArray} {i:Nat} (hn:∀ j,j<i→¬ (l.getD j e0).1=name) (h:¬ (l.getD i e0).1=name):∀ j,j<i+1→¬ (l.getD j e0).1=name:=fun j hj=>by
 by_cases e:j=i
 · subst e;exact h
 · exact hn j (by omega)
theorem X1Q (l:List X0A) (name:ByteArray):X0I l name<0∨∃ i:Nat,X0I l name=(i:Int)∧i<l.length∧(l.getD i e0).1=name∧∀ j,j<i→¬ (l.getD j e0).1=name:=by
 unfold X0I
 split
 ·
  rename_i i h
  right
  obtain⟨hi,h1,h2⟩:=List.findIdx?_eq_some_iff_getElem.1 h
  refine⟨i,rfl,hi,?_,fun j hj=>?_⟩
  ·
   have:=Option.some.inj ((List.getElem?_eq_getElem hi).symm.trans (X10 hi))
   rw [← this];simpa using h1
  ·
   have hj':j<l.length:=by omega
   have:=Option.some.inj ((List.getElem?_eq_getElem hj').symm.trans (X10 hj'))
   rw [← this];simpa using h2 j hj
 · left;decide
theorem X9p (l:List X0A) (name:ByteArray):X0I l name<((l.length:Nat):Int):=by
 rcases X1Q l name with h | ⟨i,h1,h2,_⟩<;>omega
def X1j (l:List X0A) (name:ByteArray):ByteArray×Bool:=if X0I l name<0 then(ByteArray.empty,false)else((l.getD (X0I l name).toNat e0).2.1,true)
def X0z (l:List X0A):ByteArray×ByteArray×Bool:=if ((l.length:Nat):Int)=0 then(ByteArray.empty,ByteArray.empty,false)else((l.getD 0 e0).1,(l.getD 0 e0).2.1,true)
def szE (m:Nat) (l:List X0A):Prop:=∀ e∈l,e.2.1.size≤m
theorem X8t {m:Nat} {l:List X0A} (h:szE m l) (i:Nat):(l.getD i e0).2.1.size≤m:=by
 by_cases hi:i<l.length
 · exact h _ (List.mem_of_getElem? (X10 hi))
 · rw [List.getD_eq_getElem?_getD,List.getElem?_eq_none (by omega)];exact Nat.zero_le _
theorem X8u {m:Nat} {l:List X0A} (h:szE m l) (name:ByteArray):(X1j l name).1.size≤m:=by
 unfold X1j;split
 · exact Nat.zero_le _
 · exact X8t h _
theorem X8v {m:Nat} {l:List X0A} (h:szE m l):(X0z l).2.1.size≤m:=by
 unfold X0z;split
 · exact Nat.zero_le _
 · exact X8t h _
def X0G (l:List X0A) (b:Bool):Nat:=(l.filter fun e=>decide (e.2.2=b)).length
theorem X1R {l:List X0A} {b:Bool} {i:Nat} (hi:i<l.length):X0G (l.take (i+1)) b=X0G (l.take i) b+(if (l.getD i e0).2.2=b then 1 else 0):=by
 unfold X0G
 rw [List.take_add_one,X10 hi]
 rw [List.filter_append,List.length_append]
 congr 1
 simp only [Option.toList_some]
 by_cases h:(l.getD i e0).2.2=b
 · rw [if_pos h,List.filter_cons,if_pos (decide_eq_true h)];rfl
 · rw [if_neg h,List.filter_cons,if_neg (by simpa using h)];rfl
theorem X7h (l:List X0A) (b:Bool):X0G l b≤l.length:=List.length_filter_le ..
theorem FnD.knownF {P:Program} {ov:Ov} {f:FuncId} {fn:List Value→Heap→Option (Value×Heap)} {ds:List D} {vs:List Value} {r:D} {v:Value} (hov:ov f=some fn) (hds:∀ (M:Nat→Prop) g a ws,F2 (D1 M g a) ds ws→ws=vs) (hg:∀ h,fn vs h=some (v,h)) (hr:∀ M g a,DR M g a r v):X2G P ov f ds r:=by
 intro M g a ws ok old hlen nd hcl hobj hargs
 have:=hds _ _ _ _ hargs
 subst this
 have hg0:g=[]:=List.eq_nil_of_length_eq_zero hlen
 refine Fn.known hov hg ⟨r,[],g,hr _ _ _,hlen,Nat.le_refl _,nd,fun k hk=>⟨(hcl k hk).1,(hcl k hk).2,.inl hk⟩,hobj,X1C.refl _ _,ok,fun i b k cs e _=>e,fun i cs _ e=>⟨cs,e⟩,rfl,rfl⟩
theorem XGw {k:IntKind} {z:Int}:∀ (M:Nat→Prop) g a ws,F2 (D1 M g a) [.int k z] ws→ws=[.int k z]:=fun M g a ws h=>by
 cases h with
 | cons h t=>cases t;cases h;rfl
theorem XEY {s:ByteArray}:∀ (M:Nat→Prop) g a ws,F2 (D1 M g a) [.str s] ws→ws=[.string s]:=fun M g a ws h=>by
 cases h with
 | cons h t=>cases t;cases h;rfl
def X3k (n:Nat):ByteArray:=⟨(Lib.itoa (n:Int)).toArray⟩
end
end Go.Vai
namespace Go.Vai
noncomputable section
def valL:List UInt8→Nat:=List.foldl (fun a b=>a*10+(b.toNat - 48)) 0
theorem XBm (l:List UInt8) (b:UInt8):valL (l++[b])=valL l*10+(b.toNat - 48):=by
 unfold valL;rw [List.foldl_append];rfl
theorem XBn {d:Nat} (h:d<10):(UInt8.ofNat (48+d)).toNat - 48=d:=by
 have:(UInt8.ofNat (48+d)).toNat=(48+d) % 256:=UInt8.toNat_ofNat'
 rw [this];omega
theorem X9q:∀ n,valL (Lib.decDigits n)=n:=by
 intro n
 induction n using Nat.strongRecOn with
 | _ n ih =>
  unfold Lib.decDigits
  by_cases h:n<10
  ·
   rw [dif_pos h]
   show 0*10+((UInt8.ofNat (48+n)).toNat - 48)=n
   rw [XBn h];omega
  ·
   rw [dif_neg h,XBm,ih (n / 10) (by omega),XBn (by omega)]
   omega
def bn (k:Nat):ByteArray:=(⟨#[98]⟩:ByteArray)++X3k k
theorem X2X (k:Nat):(X3k k).data.toList=Lib.decDigits k:=by
 unfold X3k Lib.itoa
 rw [if_neg (by omega),Int.toNat_natCast]
theorem XBo (k:Nat):(bn k).data.toList=98::Lib.decDigits k:=by
 unfold bn
 rw [ByteArray.data_append,Array.toList_append,X2X];rfl
theorem XGx {j k:Nat} (h:bn j=bn k):j=k:=by
 have:=congrArg (fun s:ByteArray=>s.data.toList) h
 simp only [XBo,List.cons.injEq,true_and]at this
 rw [← X9q j,this,X9q]
theorem XBp (k:Nat):¬ bn k=ByteArray.empty:=fun h=>by
 have:=congrArg (fun s:ByteArray=>s.data.toList) h
 rw [XBo]at this
 cases this
theorem X8w {k:Nat} (h:k≤1000000):(X3k k).size≤7:=by
 have e:(X3k k).size=(Lib.decDigits k).length:=by rw [← X2X];exact(Array.length_toList).symm
 rw [e]
 have:∀ m n,n<10 ^ (m+1)→(Lib.decDigits n).length≤m+1:=by
  intro m
  induction m with
  | zero=>intro n hn;unfold Lib.decDigits;rw [dif_pos (by simpa using hn)];exact Nat.le_refl _
  | succ m ih =>
   intro n hn
   unfold Lib.decDigits
   split
   · simp
   ·
    rw [List.length_append]
    have:=ih (n / 10) (by rw [Nat.div_lt_iff_lt_mul (by decide)];rw [Nat.pow_succ]at hn;exact hn)
    simp;omega
 exact this 6 k (by omega)
open Classical in
/-- How many entries bear an automatic name from a number on. -/
def XBq (l:List X0A) (n:Nat):Nat:=l.countP fun e=>decide (∃ j,n≤j∧e.1=bn j)
theorem X8x (l:List X0A) (n:Nat):XBq l n≤l.length:=List.countP_le_length
theorem XBr {α:Type} {p q:α→Bool}:∀ {l:List α},(∀ x∈l,p x=true→q x=true)→(∃ x∈l,q x=true∧p x=false)→l.countP p<l.countP q:=by
 intro l
 induction l with
 | nil=>rintro _ ⟨x,hx,_⟩;cases hx
 | cons a l ih =>
  intro h1 ⟨x,hx,h2,h3⟩
  rw [List.countP_cons,List.countP_cons]
  have hle:l.countP p≤l.countP q:=List.countP_mono_left fun y hy=>h1 y (List.mem_cons_of_mem _ hy)
  rcases List.mem_cons.1 hx with rfl | hx
  · rw [h2,h3];simp;omega
  ·
   have:=ih (fun y hy=>h1 y (List.mem_cons_of_mem _ hy)) ⟨x,hx,h2,h3⟩
   have:=h1 a (List.mem_cons_self ..)
   by_cases hp:p a=true
   · rw [hp,this hp];simp;omega
   · rw [if_neg hp];split<;>omega
open Classical in
theorem X71 {l:List X0A} {n:Nat} (h:¬ X0I l (bn n)<0):XBq l (n+1)<XBq l n:=by
 rcases X1Q l (bn n)with h' | ⟨i,h1,h2,h3,_⟩
 · exact absurd h' h
 unfold XBq
 refine XBr (fun x _ hp=>?_) ⟨l.getD i e0,List.mem_of_getElem? (X10 h2),?_,?_⟩
 ·
  obtain⟨j,a,b⟩:=of_decide_eq_true hp
  exact decide_eq_true ⟨j,by omega,b⟩
 · exact decide_eq_true ⟨n,Nat.le_refl _,h3⟩
 ·
  refine decide_eq_false ?_
  rintro⟨j,a,b⟩
  rw [h3]at b
  have:=XGx b
  omega
def X4H (l:List X0A) (n k:Nat):Prop:=n≤k∧X0I l (bn k)<0∧∀ j,n≤j→j<k→¬ X0I l (bn j)<0
def X5I (l:List X0A) (n:Nat) (name:ByteArray) (nx:Nat):Prop :=
 (name=ByteArray.empty∧nx=n)∨∃ k,nx=k+1∧name=bn k∧n≤k∧k+XBq l k≤n+l.length∧∀ j,n≤j→j<k→¬ X0I l (bn j)<0
open Classical in
def X8y (l:List X0A) (name:ByteArray) (nx:Nat):Nat:=if name=ByteArray.empty then XBq l nx+1 else XBq l (nx - 1)
theorem X5I.first {l:List X0A} {n:Nat} {name:ByteArray} {nx:Nat} (h:X5I l n name nx) (he:name=ByteArray.empty):X5I l n (bn nx) (nx+1)∧X8y l (bn nx) (nx+1)<X8y l name nx:=by
 rcases h with⟨_,rfl⟩ | ⟨k,_,rfl,_⟩
 ·
  refine⟨.inr ⟨nx,rfl,rfl,Nat.le_refl _,?_,fun j a b=>by omega⟩,?_⟩
  · have:=X8x l nx;omega
  · unfold X8y;rw [if_neg (XBp _),if_pos he,Nat.add_sub_cancel];omega
 · exact absurd he (XBp _)
theorem X5I.next {l:List X0A} {n:Nat} {name:ByteArray} {nx:Nat} (h:X5I l n name nx) (he:¬ name=ByteArray.empty) (hf:¬ X0I l name<0):X5I l n (bn nx) (nx+1)∧X8y l (bn nx) (nx+1)<X8y l name nx:=by
 rcases h with⟨h,_⟩ | ⟨k,rfl,rfl,h1,h2,h3⟩
 · exact absurd h he
 ·
  have:=X71 hf
  refine⟨.inr ⟨k+1,rfl,rfl,by omega,by omega,fun j a b=>?_⟩,?_⟩
  ·
   by_cases e:j=k
   · subst e;exact hf
   · exact h3 j a (by omega)
  · unfold X8y;rw [if_neg (XBp _),if_neg (XBp _),Nat.add_sub_cancel,Nat.add_sub_cancel];exact this
theorem X5I.bound {l:List X0A} {n:Nat} {name:ByteArray} {nx:Nat} (h:X5I l n name nx):nx≤n+l.length+1:=by
 rcases h with⟨_,rfl⟩ | ⟨k,rfl,_,_,h,_⟩<;>omega
theorem X5I.fin {l:List X0A} {n:Nat} {name:ByteArray} {nx:Nat} (h:X5I l n name nx) (he:¬ name=ByteArray.empty) (hf:X0I l name<0):∃ k,name=bn k∧nx=k+1∧X4H l n k:=by
 rcases h with⟨h,_⟩ | ⟨k,rfl,rfl,h1,h2,h3⟩
 · exact absurd h he
 · exact⟨k,rfl,rfl,h1,hf,h3⟩
theorem X2Y (l:List X0A):∀ k,(l.flatMap X04).take (k*3)=(l.take k).flatMap X04:=by
 induction l with
 | nil=>intro k;simp
 | cons a l ih =>
  intro k
  cases k with
  | zero=>simp
  | succ k =>
   rw [List.flatMap_cons,List.take_succ_cons,List.flatMap_cons,List.take_append,X1u,show(k+1)*3 - 3=k*3 by omega,ih,List.take_of_length_le (by rw [X1u];omega)]
theorem X39 (l:List X0A):∀ k,(l.flatMap X04).drop (k*3)=(l.drop k).flatMap X04:=by
 induction l with
 | nil=>intro k;simp
 | cons a l ih =>
  intro k
  cases k with
  | zero=>simp
  | succ k =>
   rw [List.flatMap_cons,List.drop_succ_cons,List.drop_append,X1u,show(k+1)*3 - 3=k*3 by omega,ih,List.drop_of_length_le (by rw [X1u];omega),List.nil_append]
theorem XAW {l rest:List X0A} {i:Nat} (hi:i<l.length):((l++rest).flatMap X04).take (i*3)++((((l++rest).flatMap X04).drop ((i+1)*3)).take ((l.length - (i+1))*3))++((l++rest).flatMap X04).drop ((i+(l.length - (i+1)))*3)=(l.eraseIdx i++(l.getD (l.length - 1) e0::rest)).flatMap X04:=by
 rw [X2Y,X39,X2Y,X39,← List.flatMap_append,← List.flatMap_append]
 congr 1
 have h:l.length - 1<l.length:=by omega
 have e1:(l++rest).take i=l.take i:=List.take_append_of_le_length (by omega)
 have e2:((l++rest).drop (i+1)).take (l.length - (i+1))=l.drop (i+1):=by
  rw [List.drop_append_of_le_length (by omega),List.take_append_of_le_length (by rw [List.length_drop];exact Nat.le_refl _),List.take_of_length_le (by rw [List.length_drop];exact Nat.le_refl _)]
 have e3:(l++rest).drop (i+(l.length - (i+1)))=l.getD (l.length - 1) e0::rest:=by
  rw [show i+(l.length - (i+1))=l.length - 1 by omega,List.drop_append_of_le_length (by omega),List.drop_eq_getElem_cons h,List.drop_of_length_le (by omega)]
  have:=Option.some.inj ((List.getElem?_eq_getElem h).symm.trans (X10 h))
  rw [this];rfl
 rw [e1,e2,e3,List.eraseIdx_eq_take_drop_succ]
theorem XAX {m rest:List X0A} {x:X0A} {n:Nat} (hn:m.length=n):((m++(x::rest)).flatMap X04).take (n*3)++X6H [.str ByteArray.empty,.str ByteArray.empty,.bool false] 1++((m++(x::rest)).flatMap X04).drop (n*3+1*3)=(m++(e0::rest)).flatMap X04:=by
 subst hn
 rw [show m.length*3+1*3=(m.length+1)*3 by omega,X2Y,X39,List.take_append_of_le_length (Nat.le_refl _),List.take_length,List.drop_append]
 rw [List.drop_of_length_le (by omega),List.nil_append,show m.length+1 - m.length=1 by omega,List.drop_succ_cons,List.drop_zero]
 rw [List.flatMap_append,List.flatMap_cons]
 rw [List.append_assoc]
 rfl
theorem XBs {l rest:List X0A} {i:Nat} (h:i<l.length):(l++rest).getD i e0=l.getD i e0:=by
 rw [List.getD_eq_getElem?_getD,List.getElem?_append_left h,List.getD_eq_getElem?_getD]
theorem X4W {l rest:List X0A} {i k:Nat} {d:D} (h:i<l.length) (hk:k<3) (hd:[D.str (l.getD i e0).1,.str (l.getD i e0).2.1,.bool (l.getD i e0).2.2][k]?=some d):((l++rest).flatMap X04)[i*3+k]?=some d :=
 X23 (by rw [List.length_append];omega) hk (by rw [XBs h];exact hd)
def X7i (l:List X0A) (i:Nat):Prop:=i<l.length∧(l.getD i e0).2.2=true∧∀ j,i<j→j<l.length→(l.getD j e0).2.2=false
theorem X0t (a:X0A) (l:List X0A) (b:Bool):X0G (a::l) b=X0G l b+(if a.2.2=b then 1 else 0):=by
 unfold X0G
 by_cases h:a.2.2=b
 · rw [if_pos h,List.filter_cons,if_pos (decide_eq_true h)];rfl
 · rw [if_neg h,List.filter_cons,if_neg (by simpa using h)];rfl
theorem X3A {l:List X0A} {b:Bool}:∀ {i:Nat},i<l.length→(l.getD i e0).2.2=b→X0G l b=X0G (l.eraseIdx i) b+1:=by
 induction l with
 | nil=>intro i h;cases h
 | cons a l ih =>
  intro i h hb
  cases i with
  | zero =>
   have hb:a.2.2=b:=hb
   rw [X0t,if_pos hb];rfl
  | succ i =>
   rw [List.eraseIdx_cons_succ,X0t,X0t,ih (by simpa using h) (by simpa using hb)]
   omega
theorem XAY {l:List X0A} {b:Bool} (h:0<X0G l b):∃ i,i<l.length∧(l.getD i e0).2.2=b:=by
 unfold X0G at h
 obtain⟨x,hx⟩:=List.exists_mem_of_length_pos h
 obtain⟨h1,h2⟩:=List.mem_filter.1 hx
 obtain⟨i,hi,rfl⟩:=List.mem_iff_getElem.1 h1
 refine⟨i,hi,?_⟩
 have:=Option.some.inj ((List.getElem?_eq_getElem hi).symm.trans (X10 hi))
 rw [← this];exact of_decide_eq_true h2
def EvR (room:Int) (l l':List X0A):Prop:=(((X0G l true:Nat):Int)≤room∧l'=l)∨(room<((X0G l true:Nat):Int)∧∃ i,X7i l i∧l'=l.eraseIdx i)
def EvI (room:Int) (l l':List X0A):Prop:=l'=l∨(room<((X0G l true:Nat):Int)∧∃ i,X7i l i∧l'=l.eraseIdx i)
theorem EvI.fin {room:Int} {l l':List X0A} (h:EvI room l l') (hr:((X0G l true:Nat):Int)≤room+1) (hs:¬ room<((X0G l' true:Nat):Int)):EvR room l l':=by
 rcases h with rfl | ⟨h1,i,h2,rfl⟩
 · exact .inl ⟨by omega,rfl⟩
 · exact .inr ⟨h1,i,h2,rfl⟩
theorem EvI.step {room:Int} {l l':List X0A} (h:EvI room l l') (hr:((X0G l true:Nat):Int)≤room+1) (hs:room<((X0G l' true:Nat):Int)) {i:Nat} (hi:X7i l' i):EvI room l (l'.eraseIdx i):=by
 rcases h with rfl | ⟨h1,i',h2,rfl⟩
 · exact .inr ⟨hs,i,hi,rfl⟩
 ·
  have:=X3A h2.1 h2.2.1
  omega
theorem EvI.len {room:Int} {l l':List X0A} (h:EvI room l l'):l'.length≤l.length:=by
 rcases h with rfl | ⟨h1,i,h2,rfl⟩
 · exact Nat.le_refl _
 · exact List.length_eraseIdx_le ..
theorem XBt {j o o' n n' c c':Nat} (ho:o=o') (hn:n=n') (hc:c=c'):D.row j o n c=.row j o' n' c':=by subst ho hn hc;rfl
theorem XDd {k:Nat} (h:k≤1000000):(⟨#[98]⟩:ByteArray).size+(X3k k).size≤1000000000:=by
 have:=X8w h
 have e:(⟨#[98]⟩:ByteArray).size=1:=rfl
 omega
theorem X1N (l rest:List X0A):(((l++rest).flatMap X04).drop 0).take (l.length*3)=l.flatMap X04:=by rw [List.drop_zero,XDc]
theorem X2t (l rest:List X0A):0+l.length*3≤((l++rest).flatMap X04).length:=by rw [X1F,List.length_append];omega
theorem XFl {l:List X0A} {i la:Nat} (hi:i<l.length) (ha:(l.getD i e0).2.2=true) (hlt:∀ j,la<j→j<l.length→(l.getD j e0).2.2=false) (hn:(l.getD la e0).2.2=false):i<la:=by
 rcases Nat.lt_trichotomy i la with h | h | h
 · exact h
 · subst h;rw [ha]at hn;cases hn
 · rw [hlt i h hi]at ha;cases ha
theorem XBu {l:List X0A} {la:Nat} (hlt:∀ j,la<j→j<l.length→(l.getD j e0).2.2=false) (hn:(l.getD la e0).2.2=false):∀ j,la - 1<j→j<l.length→(l.getD j e0).2.2=false:=fun j a b=>by
 by_cases e:j=la
 · subst e;exact hn
 · exact hlt j (by omega) b
end
end Go.Vai

/-
  What is proved here: what was taken, as plain data, and what the walks of the stack's functions ask for. names of numbers, entries that go, as plain data. No conditions but those that the theorems state.
-/
import Derived.Test.YtmmmjbipgngamaaGreatDoorRY
import Derived.Test.YtmmmjbipgngamaaGreatDoorRI
import Derived.Lib.ItoaNum
set_option linter.unusedVariables false
set_option linter.unusedSimpArgs false
namespace Go.Vai
noncomputable section
theorem XCI {p q:Bool}:(bif p then(bif q then true else false)else(bif q then false else true))=decide (p=q):=by cases p<;>cases q<;>rfl
abbrev X0y:=ByteArray×ByteArray×Bool
def e0:X0y:=(ByteArray.empty,ByteArray.empty,false)
def X0Z (e:X0y):List D:=[.str e.1,.str e.2.1,.bool e.2.2]
theorem X2Z (e:X0y):(X0Z e).length=3:=rfl
theorem X1A {l:List X0y} {i:Nat} (h:i<l.length):l[i]?=some (l.getD i e0):=getD_some h
theorem X3o {l:List X0y} {i:Nat} (h:i<l.length):((l.flatMap X0Z).drop (i*3)).take 3=[.str (l.getD i e0).1,.str (l.getD i e0).2.1,.bool (l.getD i e0).2.2]:=X90 (e:=3) X2Z (X1A h)
theorem XAY {l:List X0y} {i k:Nat} {d:D} (h:i<l.length) (hk:k<3) (hd:[D.str (l.getD i e0).1,.str (l.getD i e0).2.1,.bool (l.getD i e0).2.2][k]?=some d):(l.flatMap X0Z)[i*3+k]?=some d:=by
 rw [← hd,← X3o h,List.getElem?_take,if_pos hk,List.getElem?_drop]
theorem X36 (l:List X0y):(l.flatMap X0Z).length=l.length*3:=by
 induction l with
 | nil=>rfl
 | cons a l ih=>rw [List.flatMap_cons,List.length_append,ih,X2Z,List.length_cons];omega
theorem XAZ (l m:List X0y):((l++m).flatMap X0Z).take (l.length*3)=l.flatMap X0Z:=by
 rw [List.flatMap_append,List.take_append_of_le_length (Nat.le_of_eq (X36 l).symm),List.take_of_length_le (Nat.le_of_eq (X36 l))]
def X1u (l:List X0y) (name:ByteArray):Int:=match l.findIdx? (fun e=>decide (e.1=name))with
 | some i=>((i:Nat):Int)
 | none => -1
theorem X9H {l:List X0y} {name:ByteArray} {i:Nat} (hi:i<l.length) (hn:∀ j,j<i→¬ (l.getD j e0).1=name) (h:(l.getD i e0).1=name):X1u l name=((i:Nat):Int):=by
 unfold X1u
 have:l.findIdx? (fun e=>decide (e.1=name))=some i:=by
  rw [List.findIdx?_eq_some_iff_getElem]
  refine⟨hi,?_,fun j hj=>?_⟩
  ·
   have:=Option.some.inj ((List.getElem?_eq_getElem hi).symm.trans (X1A hi))
   rw [this];exact decide_eq_true h
  ·
   have hj':j<l.length:=by omega
   have:=Option.some.inj ((List.getElem?_eq_getElem hj').symm.trans (X1A hj'))
   rw [this]
   simpa using hn j hj
 rw [this]
theorem X89 {l:List X0y} {name:ByteArray} {i:Nat} (hi:¬ ((i:Nat):Int)<((l.length:Nat):Int)) (hn:∀ j,j<i→¬ (l.getD j e0).1=name):X1u l name = -1:=by
 unfold X1u
 have:l.findIdx? (fun e=>decide (e.1=name))=none:=by
  rw [List.findIdx?_eq_none_iff]
  intro x hx
  obtain⟨j,hj,rfl⟩:=List.mem_iff_getElem.1 hx
  have:=Option.some.inj ((List.getElem?_eq_getElem hj).symm.trans (X1A hj))
  rw [this]
  simpa using hn j (by omega)
 rw [this]
theorem X8A {l:List X0y} {name:ByteArray} {i:Nat} (hn:∀ j,j<i→¬ (l.getD j e0).1=name) (h:¬ (l.getD i e0).1=name):∀ j,j<i+1→¬ (l.getD j e0).1=name:=fun j hj=>by
 by_cases e:j=i
 · subst e;exact h
 · exact hn j (by omega)
theorem X48 (l:List X0y) (name:ByteArray):X1u l name<0∨∃ i:Nat,X1u l name=(i:Int)∧i<l.length∧(l.getD i e0).1=name∧∀ j,j<i→¬ (l.getD j e0).1=name:=by
 unfold X1u
 split
 ·
  rename_i i h
  right
  obtain⟨hi,h1,h2⟩:=List.findIdx?_eq_some_iff_getElem.1 h
  refine⟨i,rfl,hi,?_,fun j hj=>?_⟩
  ·
   have:=Option.some.inj ((List.getElem?_eq_getElem hi).symm.trans (X1A hi))
   rw [← this];simpa using h1
  ·
   have hj':j<l.length:=by omega
   have:=Option.some.inj ((List.getElem?_eq_getElem hj').symm.trans (X1A hj'))
   rw [← this];simpa using h2 j hj
 · left;decide
def X0d (l:List X0y) (b:Bool):Nat:=(l.filter fun e=>decide (e.2.2=b)).length
theorem X49 {l:List X0y} {b:Bool} {i:Nat} (hi:i<l.length):X0d (l.take (i+1)) b=X0d (l.take i) b+(if (l.getD i e0).2.2=b then 1 else 0):=by
 unfold X0d
 rw [List.take_add_one,X1A hi]
 rw [List.filter_append,List.length_append]
 congr 1
 simp only [Option.toList_some]
 by_cases h:(l.getD i e0).2.2=b
 · rw [if_pos h,List.filter_cons,if_pos (decide_eq_true h)];rfl
 · rw [if_neg h,List.filter_cons,if_neg (by simpa using h)];rfl
theorem X9I (l:List X0y) (b:Bool):X0d l b≤l.length:=List.length_filter_le ..
theorem FnD.knownF {P:Program} {ov:Ov} {f:FuncId} {fn:List Value→X04→Option (Value×X04)} {ds:List D} {vs:List Value} {r:D} {v:Value} (hov:ov f=some fn) (hds:∀ (M:Nat→Prop) g a ws,F2 (D1 M g a) ds ws→ws=vs) (hg:∀ h,fn vs h=some (v,h)) (hr:∀ M g a,DR M g a r v):X4n P ov f ds r:=by
 intro M g a ws ok old hlen nd hcl hobj hargs
 have:=hds _ _ _ _ hargs
 subst this
 have hg0:g=[]:=List.eq_nil_of_length_eq_zero hlen
 refine Fn.known hov hg ⟨r,[],g,hr _ _ _,hlen,Nat.le_refl _,nd,fun k hk=>⟨(hcl k hk).1,(hcl k hk).2,.inl hk⟩,hobj,X12.refl _ _,ok,fun i b k cs e _=>e,fun i cs _ e=>⟨cs,e⟩,rfl,rfl⟩
theorem XDJ {k:IntKind} {z:Int}:∀ (M:Nat→Prop) g a ws,F2 (D1 M g a) [.int k z] ws→ws=[.int k z]:=fun M g a ws h=>by
 cases h with
 | cons h t=>cases t;cases h;rfl
def X2K (n:Nat):ByteArray:=⟨(Lib.itoa (n:Int)).toArray⟩
end
end Go.Vai
namespace Go.Vai
noncomputable section
def valL:List UInt8→Nat:=List.foldl (fun a b=>a*10+(b.toNat - 48)) 0
theorem X9J (l:List UInt8) (b:UInt8):valL (l++[b])=valL l*10+(b.toNat - 48):=by
 unfold valL;rw [List.foldl_append];rfl
theorem X9K {d:Nat} (h:d<10):(UInt8.ofNat (48+d)).toNat - 48=d:=by
 have:(UInt8.ofNat (48+d)).toNat=(48+d) % 256:=UInt8.toNat_ofNat'
 rw [this];omega
theorem X7i:∀ n,valL (Lib.decDigits n)=n:=by
 intro n
 induction n using Nat.strongRecOn with
 | _ n ih =>
  unfold Lib.decDigits
  by_cases h:n<10
  ·
   rw [dif_pos h]
   show 0*10+((UInt8.ofNat (48+n)).toNat - 48)=n
   rw [X9K h];omega
  ·
   rw [dif_neg h,X9J,ih (n / 10) (by omega),X9K (by omega)]
   omega
def bn (k:Nat):ByteArray:=(⟨#[98]⟩:ByteArray)++X2K k
theorem X1v (k:Nat):(X2K k).data.toList=Lib.decDigits k:=by
 unfold X2K Lib.itoa
 rw [if_neg (by omega),Int.toNat_natCast]
theorem X9L (k:Nat):(bn k).data.toList=98::Lib.decDigits k:=by
 unfold bn
 rw [ByteArray.data_append,Array.toList_append,X1v];rfl
theorem XBK {j k:Nat} (h:bn j=bn k):j=k:=by
 have:=congrArg (fun s:ByteArray=>s.data.toList) h
 simp only [X9L,List.cons.injEq,true_and]at this
 rw [← X7i j,this,X7i]
theorem XAa (k:Nat):¬ bn k=ByteArray.empty:=fun h=>by
 have:=congrArg (fun s:ByteArray=>s.data.toList) h
 rw [X9L]at this
 cases this
theorem X70 {k:Nat} (h:k≤1000000):(X2K k).size≤7:=by
 have e:(X2K k).size=(Lib.decDigits k).length:=by rw [← X1v];exact(Array.length_toList).symm
 rw [e]
 have:∀ m n,n<10 ^ (m+1)→(Lib.decDigits n).length≤m+1:=by
  intro m
  induction m with
  | zero=>intro n hn;unfold Lib.decDigits;rw [dif_pos (by simpa using hn)];exact Nat.le_refl _
  | succ m ih =>
   intro n hn
   unfold Lib.decDigits
   split
   · simp
   ·
    rw [List.length_append]
    have:=ih (n / 10) (by rw [Nat.div_lt_iff_lt_mul (by decide)];rw [Nat.pow_succ]at hn;exact hn)
    simp;omega
 exact this 6 k (by omega)
open Classical in
/-- How many entries bear an automatic name from a number on. -/
def XCJ (l:List X0y) (n:Nat):Nat:=l.countP fun e=>decide (∃ j,n≤j∧e.1=bn j)
theorem XCK (l:List X0y) (n:Nat):XCJ l n≤l.length:=List.countP_le_length
theorem X9M {α:Type} {p q:α→Bool}:∀ {l:List α},(∀ x∈l,p x=true→q x=true)→(∃ x∈l,q x=true∧p x=false)→l.countP p<l.countP q:=by
 intro l
 induction l with
 | nil=>rintro _ ⟨x,hx,_⟩;cases hx
 | cons a l ih =>
  intro h1 ⟨x,hx,h2,h3⟩
  rw [List.countP_cons,List.countP_cons]
  have hle:l.countP p≤l.countP q:=List.countP_mono_left fun y hy=>h1 y (List.mem_cons_of_mem _ hy)
  rcases List.mem_cons.1 hx with rfl | hx
  · rw [h2,h3];simp;omega
  ·
   have:=ih (fun y hy=>h1 y (List.mem_cons_of_mem _ hy)) ⟨x,hx,h2,h3⟩
   have:=h1 a (List.mem_cons_self ..)
   by_cases hp:p a=true
   · rw [hp,this hp];simp;omega
   · rw [if_neg hp];split<;>omega
open Classical in
theorem XCL {l:List X0y} {n:Nat} (h:¬ X1u l (bn n)<0):XCJ l (n+1)<XCJ l n:=by
 rcases X48 l (bn n)with h' | ⟨i,h1,h2,h3,_⟩
 · exact absurd h' h
 unfold XCJ
 refine X9M (fun x _ hp=>?_) ⟨l.getD i e0,List.mem_of_getElem? (X1A h2),?_,?_⟩
 ·
  obtain⟨j,a,b⟩:=of_decide_eq_true hp
  exact decide_eq_true ⟨j,by omega,b⟩
 · exact decide_eq_true ⟨n,Nat.le_refl _,h3⟩
 ·
  refine decide_eq_false ?_
  rintro⟨j,a,b⟩
  rw [h3]at b
  have:=XBK b
  omega
def XCM (l:List X0y) (n k:Nat):Prop:=n≤k∧X1u l (bn k)<0∧∀ j,n≤j→j<k→¬ X1u l (bn j)<0
def X4A (l:List X0y) (n:Nat) (name:ByteArray) (nx:Nat):Prop :=
 (name=ByteArray.empty∧nx=n)∨∃ k,nx=k+1∧name=bn k∧n≤k∧k+XCJ l k≤n+l.length∧∀ j,n≤j→j<k→¬ X1u l (bn j)<0
open Classical in
def X71 (l:List X0y) (name:ByteArray) (nx:Nat):Nat:=if name=ByteArray.empty then XCJ l nx+1 else XCJ l (nx - 1)
theorem X4A.first {l:List X0y} {n:Nat} {name:ByteArray} {nx:Nat} (h:X4A l n name nx) (he:name=ByteArray.empty):X4A l n (bn nx) (nx+1)∧X71 l (bn nx) (nx+1)<X71 l name nx:=by
 rcases h with⟨_,rfl⟩ | ⟨k,_,rfl,_⟩
 ·
  refine⟨.inr ⟨nx,rfl,rfl,Nat.le_refl _,?_,fun j a b=>by omega⟩,?_⟩
  · have:=XCK l nx;omega
  · unfold X71;rw [if_neg (XAa _),if_pos he,Nat.add_sub_cancel];omega
 · exact absurd he (XAa _)
theorem X4A.next {l:List X0y} {n:Nat} {name:ByteArray} {nx:Nat} (h:X4A l n name nx) (he:¬ name=ByteArray.empty) (hf:¬ X1u l name<0):X4A l n (bn nx) (nx+1)∧X71 l (bn nx) (nx+1)<X71 l name nx:=by
 rcases h with⟨h,_⟩ | ⟨k,rfl,rfl,h1,h2,h3⟩
 · exact absurd h he
 ·
  have:=XCL hf
  refine⟨.inr ⟨k+1,rfl,rfl,by omega,by omega,fun j a b=>?_⟩,?_⟩
  ·
   by_cases e:j=k
   · subst e;exact hf
   · exact h3 j a (by omega)
  · unfold X71;rw [if_neg (XAa _),if_neg (XAa _),Nat.add_sub_cancel,Nat.add_sub_cancel];exact this
theorem X4A.bound {l:List X0y} {n:Nat} {name:ByteArray} {nx:Nat} (h:X4A l n name nx):nx≤n+l.length+1:=by
 rcases h with⟨_,rfl⟩ | ⟨k,rfl,_,_,h,_⟩<;>omega
theorem X4A.fin {l:List X0y} {n:Nat} {name:ByteArray} {nx:Nat} (h:X4A l n name nx) (he:¬ name=ByteArray.empty) (hf:X1u l name<0):∃ k,name=bn k∧nx=k+1∧XCM l n k:=by
 rcases h with⟨h,_⟩ | ⟨k,rfl,rfl,h1,h2,h3⟩
 · exact absurd h he
 · exact⟨k,rfl,rfl,h1,hf,h3⟩
theorem X4B (l:List X0y):∀ k,(l.flatMap X0Z).take (k*3)=(l.take k).flatMap X0Z:=by
 induction l with
 | nil=>intro k;simp
 | cons a l ih =>
  intro k
  cases k with
  | zero=>simp
  | succ k =>
   rw [List.flatMap_cons,List.take_succ_cons,List.flatMap_cons,List.take_append,X2Z,show(k+1)*3 - 3=k*3 by omega,ih,List.take_of_length_le (by rw [X2Z];omega)]
theorem X4C (l:List X0y):∀ k,(l.flatMap X0Z).drop (k*3)=(l.drop k).flatMap X0Z:=by
 induction l with
 | nil=>intro k;simp
 | cons a l ih =>
  intro k
  cases k with
  | zero=>simp
  | succ k =>
   rw [List.flatMap_cons,List.drop_succ_cons,List.drop_append,X2Z,show(k+1)*3 - 3=k*3 by omega,ih,List.drop_of_length_le (by rw [X2Z];omega),List.nil_append]
theorem X8B {l rest:List X0y} {i:Nat} (hi:i<l.length):((l++rest).flatMap X0Z).take (i*3)++((((l++rest).flatMap X0Z).drop ((i+1)*3)).take ((l.length - (i+1))*3))++((l++rest).flatMap X0Z).drop ((i+(l.length - (i+1)))*3)=(l.eraseIdx i++(l.getD (l.length - 1) e0::rest)).flatMap X0Z:=by
 rw [X4B,X4C,X4B,X4C,← List.flatMap_append,← List.flatMap_append]
 congr 1
 have h:l.length - 1<l.length:=by omega
 have e1:(l++rest).take i=l.take i:=List.take_append_of_le_length (by omega)
 have e2:((l++rest).drop (i+1)).take (l.length - (i+1))=l.drop (i+1):=by
  rw [List.drop_append_of_le_length (by omega),List.take_append_of_le_length (by rw [List.length_drop];exact Nat.le_refl _),List.take_of_length_le (by rw [List.length_drop];exact Nat.le_refl _)]
 have e3:(l++rest).drop (i+(l.length - (i+1)))=l.getD (l.length - 1) e0::rest:=by
  rw [show i+(l.length - (i+1))=l.length - 1 by omega,List.drop_append_of_le_length (by omega),List.drop_eq_getElem_cons h,List.drop_of_length_le (by omega)]
  have:=Option.some.inj ((List.getElem?_eq_getElem h).symm.trans (X1A h))
  rw [this];rfl
 rw [e1,e2,e3,List.eraseIdx_eq_take_drop_succ]
theorem X8C {m rest:List X0y} {x:X0y} {n:Nat} (hn:m.length=n):((m++(x::rest)).flatMap X0Z).take (n*3)++X5q [.str ByteArray.empty,.str ByteArray.empty,.bool false] 1++((m++(x::rest)).flatMap X0Z).drop (n*3+1*3)=(m++(e0::rest)).flatMap X0Z:=by
 subst hn
 rw [show m.length*3+1*3=(m.length+1)*3 by omega,X4B,X4C,List.take_append_of_le_length (Nat.le_refl _),List.take_length,List.drop_append]
 rw [List.drop_of_length_le (by omega),List.nil_append,show m.length+1 - m.length=1 by omega,List.drop_succ_cons,List.drop_zero]
 rw [List.flatMap_append,List.flatMap_cons]
 rw [List.append_assoc]
 rfl
theorem X9N {l rest:List X0y} {i:Nat} (h:i<l.length):(l++rest).getD i e0=l.getD i e0:=by
 rw [List.getD_eq_getElem?_getD,List.getElem?_append_left h,List.getD_eq_getElem?_getD]
theorem X60 {l rest:List X0y} {i k:Nat} {d:D} (h:i<l.length) (hk:k<3) (hd:[D.str (l.getD i e0).1,.str (l.getD i e0).2.1,.bool (l.getD i e0).2.2][k]?=some d):((l++rest).flatMap X0Z)[i*3+k]?=some d :=
 XAY (by rw [List.length_append];omega) hk (by rw [X9N h];exact hd)
def XAb (l:List X0y) (i:Nat):Prop:=i<l.length∧(l.getD i e0).2.2=true∧∀ j,i<j→j<l.length→(l.getD j e0).2.2=false
theorem X1g (a:X0y) (l:List X0y) (b:Bool):X0d (a::l) b=X0d l b+(if a.2.2=b then 1 else 0):=by
 unfold X0d
 by_cases h:a.2.2=b
 · rw [if_pos h,List.filter_cons,if_pos (decide_eq_true h)];rfl
 · rw [if_neg h,List.filter_cons,if_neg (by simpa using h)];rfl
theorem X61 {l:List X0y} {b:Bool}:∀ {i:Nat},i<l.length→(l.getD i e0).2.2=b→X0d l b=X0d (l.eraseIdx i) b+1:=by
 induction l with
 | nil=>intro i h;cases h
 | cons a l ih =>
  intro i h hb
  cases i with
  | zero =>
   have hb:a.2.2=b:=hb
   rw [X1g,if_pos hb];rfl
  | succ i =>
   rw [List.eraseIdx_cons_succ,X1g,X1g,ih (by simpa using h) (by simpa using hb)]
   omega
theorem X8D {l:List X0y} {b:Bool} (h:0<X0d l b):∃ i,i<l.length∧(l.getD i e0).2.2=b:=by
 unfold X0d at h
 obtain⟨x,hx⟩:=List.exists_mem_of_length_pos h
 obtain⟨h1,h2⟩:=List.mem_filter.1 hx
 obtain⟨i,hi,rfl⟩:=List.mem_iff_getElem.1 h1
 refine⟨i,hi,?_⟩
 have:=Option.some.inj ((List.getElem?_eq_getElem hi).symm.trans (X1A hi))
 rw [← this];exact of_decide_eq_true h2
def EvR (room:Int) (l l':List X0y):Prop:=(((X0d l true:Nat):Int)≤room∧l'=l)∨(room<((X0d l true:Nat):Int)∧∃ i,XAb l i∧l'=l.eraseIdx i)
def EvI (room:Int) (l l':List X0y):Prop:=l'=l∨(room<((X0d l true:Nat):Int)∧∃ i,XAb l i∧l'=l.eraseIdx i)
theorem EvI.fin {room:Int} {l l':List X0y} (h:EvI room l l') (hr:((X0d l true:Nat):Int)≤room+1) (hs:¬ room<((X0d l' true:Nat):Int)):EvR room l l':=by
 rcases h with rfl | ⟨h1,i,h2,rfl⟩
 · exact .inl ⟨by omega,rfl⟩
 · exact .inr ⟨h1,i,h2,rfl⟩
theorem EvI.step {room:Int} {l l':List X0y} (h:EvI room l l') (hr:((X0d l true:Nat):Int)≤room+1) (hs:room<((X0d l' true:Nat):Int)) {i:Nat} (hi:XAb l' i):EvI room l (l'.eraseIdx i):=by
 rcases h with rfl | ⟨h1,i',h2,rfl⟩
 · exact .inr ⟨hs,i,hi,rfl⟩
 ·
  have:=X61 h2.1 h2.2.1
  omega
theorem EvI.len {room:Int} {l l':List X0y} (h:EvI room l l'):l'.length≤l.length:=by
 rcases h with rfl | ⟨h1,i,h2,rfl⟩
 · exact Nat.le_refl _
 · exact List.length_eraseIdx_le ..
theorem X9O {j o o' n n' c c':Nat} (ho:o=o') (hn:n=n') (hc:c=c'):D.row j o n c=.row j o' n' c':=by subst ho hn hc;rfl
theorem XAc {k:Nat} (h:k≤1000000):(⟨#[98]⟩:ByteArray).size+(X2K k).size≤1000000000:=by
 have:=X70 h
 have e:(⟨#[98]⟩:ByteArray).size=1:=rfl
 omega
theorem X5Z (l rest:List X0y):(((l++rest).flatMap X0Z).drop 0).take (l.length*3)=l.flatMap X0Z:=by rw [List.drop_zero,XAZ]
theorem X9P (l rest:List X0y):0+l.length*3≤((l++rest).flatMap X0Z).length:=by rw [X36,List.length_append];omega
theorem XCN {l:List X0y} {i la:Nat} (hi:i<l.length) (ha:(l.getD i e0).2.2=true) (hlt:∀ j,la<j→j<l.length→(l.getD j e0).2.2=false) (hn:(l.getD la e0).2.2=false):i<la:=by
 rcases Nat.lt_trichotomy i la with h | h | h
 · exact h
 · subst h;rw [ha]at hn;cases hn
 · rw [hlt i h hi]at ha;cases ha
theorem X9Q {l:List X0y} {la:Nat} (hlt:∀ j,la<j→j<l.length→(l.getD j e0).2.2=false) (hn:(l.getD la e0).2.2=false):∀ j,la - 1<j→j<l.length→(l.getD j e0).2.2=false:=fun j a b=>by
 by_cases e:j=la
 · subst e;exact hn
 · exact hlt j (by omega) b
end
end Go.Vai

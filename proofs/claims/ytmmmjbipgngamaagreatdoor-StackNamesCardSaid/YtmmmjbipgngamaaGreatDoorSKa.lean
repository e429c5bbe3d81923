/-
  What is proved here: what was taken, as plain data, and what the walks of the stack's functions ask for. names of numbers, entries that go, as plain data. No conditions but those that the theorems state.
-/
import Derived.Test.YtmmmjbipgngamaaGreatDoorRY
import Derived.Test.YtmmmjbipgngamaaGreatDoorRI
import Derived.Lib.ItoaNum
set_option linter.unusedVariables false
set_option linter.unusedSimpArgs false
namespace Go.Vai
noncomputable section
theorem X2x {p q:Bool}:(bif p then(bif q then true else false)else(bif q then false else true))=decide (p=q):=by cases p<;>cases q<;>rfl
abbrev X0g:=ByteArray×ByteArray×Bool
def e0:X0g:=(ByteArray.empty,ByteArray.empty,false)
def X0U (e:X0g):List D:=[.str e.1,.str e.2.1,.bool e.2.2]
theorem X2c (e:X0g):(X0U e).length=3:=rfl
theorem X1C {l:List X0g} {i:Nat} (h:i<l.length):l[i]?=some (l.getD i e0):=getD_some h
theorem X5k {l:List X0g} {i:Nat} (h:i<l.length):((l.flatMap X0U).drop (i*3)).take 3=[.str (l.getD i e0).1,.str (l.getD i e0).2.1,.bool (l.getD i e0).2.2]:=X9Q (e:=3) X2c (X1C h)
theorem X7z {l:List X0g} {i k:Nat} {d:D} (h:i<l.length) (hk:k<3) (hd:[D.str (l.getD i e0).1,.str (l.getD i e0).2.1,.bool (l.getD i e0).2.2][k]?=some d):(l.flatMap X0U)[i*3+k]?=some d:=by
 rw [← hd,← X5k h,List.getElem?_take,if_pos hk,List.getElem?_drop]
theorem X3D (l:List X0g):(l.flatMap X0U).length=l.length*3:=by
 induction l with
 | nil=>rfl
 | cons a l ih=>rw [List.flatMap_cons,List.length_append,ih,X2c,List.length_cons];omega
theorem XB0 (l m:List X0g):((l++m).flatMap X0U).take (l.length*3)=l.flatMap X0U:=by
 rw [List.flatMap_append,List.take_append_of_le_length (Nat.le_of_eq (X3D l).symm),List.take_of_length_le (Nat.le_of_eq (X3D l))]
def X0u (l:List X0g) (name:ByteArray):Int:=match l.findIdx? (fun e=>decide (e.1=name))with
 | some i=>((i:Nat):Int)
 | none => -1
theorem X6F {l:List X0g} {name:ByteArray} {i:Nat} (hi:i<l.length) (hn:∀ j,j<i→¬ (l.getD j e0).1=name) (h:(l.getD i e0).1=name):X0u l name=((i:Nat):Int):=by
 unfold X0u
 have:l.findIdx? (fun e=>decide (e.1=name))=some i:=by
  rw [List.findIdx?_eq_some_iff_getElem]
  refine⟨hi,?_,fun j hj=>?_⟩
  ·
   have:=Option.some.inj ((List.getElem?_eq_getElem hi).symm.trans (X1C hi))
   rw [this];exact decide_eq_true h
  ·
   have hj':j<l.length:=by omega
   have:=Option.some.inj ((List.getElem?_eq_getElem hj').symm.trans (X1C hj'))
   rw [this]
   simpa using hn j hj
 rw [this]
theorem X8W {l:List X0g} {name:ByteArray} {i:Nat} (hi:¬ ((i:Nat):Int)<((l.length:Nat):Int)) (hn:∀ j,j<i→¬ (l.getD j e0).1=name):X0u l name = -1:=by
 unfold X0u
 have:l.findIdx? (fun e=>decide (e.1=name))=none:=by
  rw [List.findIdx?_eq_none_iff]
  intro x hx
  obtain⟨j,hj,rfl⟩:=List.mem_iff_getElem.1 hx
  have:=Option.some.inj ((List.getElem?_eq_getElem hj).symm.trans (X1C hj))
  rw [this]
  simpa using hn j (by omega)
 rw [this]
theorem X8X {l:List X0g} {name:ByteArray} {i:Nat} (hn:∀ j,j<i→¬ (l.getD j e0).1=name) (h:¬ (l.getD i e0).1=name):∀ j,j<i+1→¬ (l.getD j e0).1=name:=fun j hj=>by
 by_cases e:j=i
 · subst e;exact h
 · exact hn j (by omega)
theorem X28 (l:List X0g) (name:ByteArray):X0u l name<0∨∃ i:Nat,X0u l name=(i:Int)∧i<l.length∧(l.getD i e0).1=name∧∀ j,j<i→¬ (l.getD j e0).1=name:=by
 unfold X0u
 split
 ·
  rename_i i h
  right
  obtain⟨hi,h1,h2⟩:=List.findIdx?_eq_some_iff_getElem.1 h
  refine⟨i,rfl,hi,?_,fun j hj=>?_⟩
  ·
   have:=Option.some.inj ((List.getElem?_eq_getElem hi).symm.trans (X1C hi))
   rw [← this];simpa using h1
  ·
   have hj':j<l.length:=by omega
   have:=Option.some.inj ((List.getElem?_eq_getElem hj').symm.trans (X1C hj'))
   rw [← this];simpa using h2 j hj
 · left;decide
theorem XB1 (l:List X0g) (name:ByteArray):X0u l name<((l.length:Nat):Int):=by
 rcases X28 l name with h | ⟨i,h1,h2,_⟩<;>omega
def X15 (l:List X0g) (name:ByteArray):ByteArray×Bool:=if X0u l name<0 then(ByteArray.empty,false)else((l.getD (X0u l name).toNat e0).2.1,true)
def X0O (l:List X0g) (b:Bool):Nat:=(l.filter fun e=>decide (e.2.2=b)).length
theorem X4L {l:List X0g} {b:Bool} {i:Nat} (hi:i<l.length):X0O (l.take (i+1)) b=X0O (l.take i) b+(if (l.getD i e0).2.2=b then 1 else 0):=by
 unfold X0O
 rw [List.take_add_one,X1C hi]
 rw [List.filter_append,List.length_append]
 congr 1
 simp only [Option.toList_some]
 by_cases h:(l.getD i e0).2.2=b
 · rw [if_pos h,List.filter_cons,if_pos (decide_eq_true h)];rfl
 · rw [if_neg h,List.filter_cons,if_neg (by simpa using h)];rfl
theorem X9f (l:List X0g) (b:Bool):X0O l b≤l.length:=List.length_filter_le ..
theorem FnD.knownF {P:Program} {ov:Ov} {f:FuncId} {fn:List Value→X04→Option (Value×X04)} {ds:List D} {vs:List Value} {r:D} {v:Value} (hov:ov f=some fn) (hds:∀ (M:Nat→Prop) g a ws,F2 (D1 M g a) ds ws→ws=vs) (hg:∀ h,fn vs h=some (v,h)) (hr:∀ M g a,DR M g a r v):X2u P ov f ds r:=by
 intro M g a ws ok old hlen nd hcl hobj hargs
 have:=hds _ _ _ _ hargs
 subst this
 have hg0:g=[]:=List.eq_nil_of_length_eq_zero hlen
 refine Fn.known hov hg ⟨r,[],g,hr _ _ _,hlen,Nat.le_refl _,nd,fun k hk=>⟨(hcl k hk).1,(hcl k hk).2,.inl hk⟩,hobj,X1A.refl _ _,ok,fun i b k cs e _=>e,fun i cs _ e=>⟨cs,e⟩,rfl,rfl⟩
theorem XDo {k:IntKind} {z:Int}:∀ (M:Nat→Prop) g a ws,F2 (D1 M g a) [.int k z] ws→ws=[.int k z]:=fun M g a ws h=>by
 cases h with
 | cons h t=>cases t;cases h;rfl
def X2l (n:Nat):ByteArray:=⟨(Lib.itoa (n:Int)).toArray⟩
end
end Go.Vai
namespace Go.Vai
noncomputable section
def valL:List UInt8→Nat:=List.foldl (fun a b=>a*10+(b.toNat - 48)) 0
theorem X9g (l:List UInt8) (b:UInt8):valL (l++[b])=valL l*10+(b.toNat - 48):=by
 unfold valL;rw [List.foldl_append];rfl
theorem X9h {d:Nat} (h:d<10):(UInt8.ofNat (48+d)).toNat - 48=d:=by
 have:(UInt8.ofNat (48+d)).toNat=(48+d) % 256:=UInt8.toNat_ofNat'
 rw [this];omega
theorem X80:∀ n,valL (Lib.decDigits n)=n:=by
 intro n
 induction n using Nat.strongRecOn with
 | _ n ih =>
  unfold Lib.decDigits
  by_cases h:n<10
  ·
   rw [dif_pos h]
   show 0*10+((UInt8.ofNat (48+n)).toNat - 48)=n
   rw [X9h h];omega
  ·
   rw [dif_neg h,X9g,ih (n / 10) (by omega),X9h (by omega)]
   omega
def bn (k:Nat):ByteArray:=(⟨#[98]⟩:ByteArray)++X2l k
theorem X1z (k:Nat):(X2l k).data.toList=Lib.decDigits k:=by
 unfold X2l Lib.itoa
 rw [if_neg (by omega),Int.toNat_natCast]
theorem X9i (k:Nat):(bn k).data.toList=98::Lib.decDigits k:=by
 unfold bn
 rw [ByteArray.data_append,Array.toList_append,X1z];rfl
theorem XBl {j k:Nat} (h:bn j=bn k):j=k:=by
 have:=congrArg (fun s:ByteArray=>s.data.toList) h
 simp only [X9i,List.cons.injEq,true_and]at this
 rw [← X80 j,this,X80]
theorem XB2 (k:Nat):¬ bn k=ByteArray.empty:=fun h=>by
 have:=congrArg (fun s:ByteArray=>s.data.toList) h
 rw [X9i]at this
 cases this
theorem X7G {k:Nat} (h:k≤1000000):(X2l k).size≤7:=by
 have e:(X2l k).size=(Lib.decDigits k).length:=by rw [← X1z];exact(Array.length_toList).symm
 rw [e]
 have:∀ m n,n<10 ^ (m+1)→(Lib.decDigits n).length≤m+1:=by
  intro m
  induction m with
  | zero=>intro n hn;unfold Lib.decDigits;rw [dif_pos (by simpa using hn)];exact Nat.le_refl _
  | succ m ih =>
   intro n hn
   unfold Lib.decDigits
   split
   · simp
   ·
    rw [List.length_append]
    have:=ih (n / 10) (by rw [Nat.div_lt_iff_lt_mul (by decide)];rw [Nat.pow_succ]at hn;exact hn)
    simp;omega
 exact this 6 k (by omega)
open Classical in
/-- How many entries bear an automatic name from a number on. -/
def XB3 (l:List X0g) (n:Nat):Nat:=l.countP fun e=>decide (∃ j,n≤j∧e.1=bn j)
theorem X9j (l:List X0g) (n:Nat):XB3 l n≤l.length:=List.countP_le_length
theorem X9k {α:Type} {p q:α→Bool}:∀ {l:List α},(∀ x∈l,p x=true→q x=true)→(∃ x∈l,q x=true∧p x=false)→l.countP p<l.countP q:=by
 intro l
 induction l with
 | nil=>rintro _ ⟨x,hx,_⟩;cases hx
 | cons a l ih =>
  intro h1 ⟨x,hx,h2,h3⟩
  rw [List.countP_cons,List.countP_cons]
  have hle:l.countP p≤l.countP q:=List.countP_mono_left fun y hy=>h1 y (List.mem_cons_of_mem _ hy)
  rcases List.mem_cons.1 hx with rfl | hx
  · rw [h2,h3];simp;omega
  ·
   have:=ih (fun y hy=>h1 y (List.mem_cons_of_mem _ hy)) ⟨x,hx,h2,h3⟩
   have:=h1 a (List.mem_cons_self ..)
   by_cases hp:p a=true
   · rw [hp,this hp];simp;omega
   · rw [if_neg hp];split<;>omega
open Classical in
theorem X9l {l:List X0g} {n:Nat} (h:¬ X0u l (bn n)<0):XB3 l (n+1)<XB3 l n:=by
 rcases X28 l (bn n)with h' | ⟨i,h1,h2,h3,_⟩
 · exact absurd h' h
 unfold XB3
 refine X9k (fun x _ hp=>?_) ⟨l.getD i e0,List.mem_of_getElem? (X1C h2),?_,?_⟩
 ·
  obtain⟨j,a,b⟩:=of_decide_eq_true hp
  exact decide_eq_true ⟨j,by omega,b⟩
 · exact decide_eq_true ⟨n,Nat.le_refl _,h3⟩
 ·
  refine decide_eq_false ?_
  rintro⟨j,a,b⟩
  rw [h3]at b
  have:=XBl b
  omega
def X7H (l:List X0g) (n k:Nat):Prop:=n≤k∧X0u l (bn k)<0∧∀ j,n≤j→j<k→¬ X0u l (bn j)<0
def X4M (l:List X0g) (n:Nat) (name:ByteArray) (nx:Nat):Prop :=
 (name=ByteArray.empty∧nx=n)∨∃ k,nx=k+1∧name=bn k∧n≤k∧k+XB3 l k≤n+l.length∧∀ j,n≤j→j<k→¬ X0u l (bn j)<0
open Classical in
def X7I (l:List X0g) (name:ByteArray) (nx:Nat):Nat:=if name=ByteArray.empty then XB3 l nx+1 else XB3 l (nx - 1)
theorem X4M.first {l:List X0g} {n:Nat} {name:ByteArray} {nx:Nat} (h:X4M l n name nx) (he:name=ByteArray.empty):X4M l n (bn nx) (nx+1)∧X7I l (bn nx) (nx+1)<X7I l name nx:=by
 rcases h with⟨_,rfl⟩ | ⟨k,_,rfl,_⟩
 ·
  refine⟨.inr ⟨nx,rfl,rfl,Nat.le_refl _,?_,fun j a b=>by omega⟩,?_⟩
  · have:=X9j l nx;omega
  · unfold X7I;rw [if_neg (XB2 _),if_pos he,Nat.add_sub_cancel];omega
 · exact absurd he (XB2 _)
theorem X4M.next {l:List X0g} {n:Nat} {name:ByteArray} {nx:Nat} (h:X4M l n name nx) (he:¬ name=ByteArray.empty) (hf:¬ X0u l name<0):X4M l n (bn nx) (nx+1)∧X7I l (bn nx) (nx+1)<X7I l name nx:=by
 rcases h with⟨h,_⟩ | ⟨k,rfl,rfl,h1,h2,h3⟩
 · exact absurd h he
 ·
  have:=X9l hf
  refine⟨.inr ⟨k+1,rfl,rfl,by omega,by omega,fun j a b=>?_⟩,?_⟩
  ·
   by_cases e:j=k
   · subst e;exact hf
   · exact h3 j a (by omega)
  · unfold X7I;rw [if_neg (XB2 _),if_neg (XB2 _),Nat.add_sub_cancel,Nat.add_sub_cancel];exact this
theorem X4M.bound {l:List X0g} {n:Nat} {name:ByteArray} {nx:Nat} (h:X4M l n name nx):nx≤n+l.length+1:=by
 rcases h with⟨_,rfl⟩ | ⟨k,rfl,_,_,h,_⟩<;>omega
theorem X4M.fin {l:List X0g} {n:Nat} {name:ByteArray} {nx:Nat} (h:X4M l n name nx) (he:¬ name=ByteArray.empty) (hf:X0u l name<0):∃ k,name=bn k∧nx=k+1∧X7H l n k:=by
 rcases h with⟨h,_⟩ | ⟨k,rfl,rfl,h1,h2,h3⟩
 · exact absurd h he
 · exact⟨k,rfl,rfl,h1,hf,h3⟩
theorem X4N (l:List X0g):∀ k,(l.flatMap X0U).take (k*3)=(l.take k).flatMap X0U:=by
 induction l with
 | nil=>intro k;simp
 | cons a l ih =>
  intro k
  cases k with
  | zero=>simp
  | succ k =>
   rw [List.flatMap_cons,List.take_succ_cons,List.flatMap_cons,List.take_append,X2c,show(k+1)*3 - 3=k*3 by omega,ih,List.take_of_length_le (by rw [X2c];omega)]
theorem X4O (l:List X0g):∀ k,(l.flatMap X0U).drop (k*3)=(l.drop k).flatMap X0U:=by
 induction l with
 | nil=>intro k;simp
 | cons a l ih =>
  intro k
  cases k with
  | zero=>simp
  | succ k =>
   rw [List.flatMap_cons,List.drop_succ_cons,List.drop_append,X2c,show(k+1)*3 - 3=k*3 by omega,ih,List.drop_of_length_le (by rw [X2c];omega),List.nil_append]
theorem X8Y {l rest:List X0g} {i:Nat} (hi:i<l.length):((l++rest).flatMap X0U).take (i*3)++((((l++rest).flatMap X0U).drop ((i+1)*3)).take ((l.length - (i+1))*3))++((l++rest).flatMap X0U).drop ((i+(l.length - (i+1)))*3)=(l.eraseIdx i++(l.getD (l.length - 1) e0::rest)).flatMap X0U:=by
 rw [X4N,X4O,X4N,X4O,← List.flatMap_append,← List.flatMap_append]
 congr 1
 have h:l.length - 1<l.length:=by omega
 have e1:(l++rest).take i=l.take i:=List.take_append_of_le_length (by omega)
 have e2:((l++rest).drop (i+1)).take (l.length - (i+1))=l.drop (i+1):=by
  rw [List.drop_append_of_le_length (by omega),List.take_append_of_le_length (by rw [List.length_drop];exact Nat.le_refl _),List.take_of_length_le (by rw [List.length_drop];exact Nat.le_refl _)]
 have e3:(l++rest).drop (i+(l.length - (i+1)))=l.getD (l.length - 1) e0::rest:=by
  rw [show i+(l.length - (i+1))=l.length - 1 by omega,List.drop_append_of_le_length (by omega),List.drop_eq_getElem_cons h,List.drop_of_length_le (by omega)]
  have:=Option.some.inj ((List.getElem?_eq_getElem h).symm.trans (X1C h))
  rw [this];rfl
 rw [e1,e2,e3,List.eraseIdx_eq_take_drop_succ]
theorem X8Z {m rest:List X0g} {x:X0g} {n:Nat} (hn:m.length=n):((m++(x::rest)).flatMap X0U).take (n*3)++X63 [.str ByteArray.empty,.str ByteArray.empty,.bool false] 1++((m++(x::rest)).flatMap X0U).drop (n*3+1*3)=(m++(e0::rest)).flatMap X0U:=by
 subst hn
 rw [show m.length*3+1*3=(m.length+1)*3 by omega,X4N,X4O,List.take_append_of_le_length (Nat.le_refl _),List.take_length,List.drop_append]
 rw [List.drop_of_length_le (by omega),List.nil_append,show m.length+1 - m.length=1 by omega,List.drop_succ_cons,List.drop_zero]
 rw [List.flatMap_append,List.flatMap_cons]
 rw [List.append_assoc]
 rfl
theorem X9m {l rest:List X0g} {i:Nat} (h:i<l.length):(l++rest).getD i e0=l.getD i e0:=by
 rw [List.getD_eq_getElem?_getD,List.getElem?_append_left h,List.getD_eq_getElem?_getD]
theorem X6G {l rest:List X0g} {i k:Nat} {d:D} (h:i<l.length) (hk:k<3) (hd:[D.str (l.getD i e0).1,.str (l.getD i e0).2.1,.bool (l.getD i e0).2.2][k]?=some d):((l++rest).flatMap X0U)[i*3+k]?=some d :=
 X7z (by rw [List.length_append];omega) hk (by rw [X9m h];exact hd)
def XB4 (l:List X0g) (i:Nat):Prop:=i<l.length∧(l.getD i e0).2.2=true∧∀ j,i<j→j<l.length→(l.getD j e0).2.2=false
theorem X1L (a:X0g) (l:List X0g) (b:Bool):X0O (a::l) b=X0O l b+(if a.2.2=b then 1 else 0):=by
 unfold X0O
 by_cases h:a.2.2=b
 · rw [if_pos h,List.filter_cons,if_pos (decide_eq_true h)];rfl
 · rw [if_neg h,List.filter_cons,if_neg (by simpa using h)];rfl
theorem X6H {l:List X0g} {b:Bool}:∀ {i:Nat},i<l.length→(l.getD i e0).2.2=b→X0O l b=X0O (l.eraseIdx i) b+1:=by
 induction l with
 | nil=>intro i h;cases h
 | cons a l ih =>
  intro i h hb
  cases i with
  | zero =>
   have hb:a.2.2=b:=hb
   rw [X1L,if_pos hb];rfl
  | succ i =>
   rw [List.eraseIdx_cons_succ,X1L,X1L,ih (by simpa using h) (by simpa using hb)]
   omega
theorem X8a {l:List X0g} {b:Bool} (h:0<X0O l b):∃ i,i<l.length∧(l.getD i e0).2.2=b:=by
 unfold X0O at h
 obtain⟨x,hx⟩:=List.exists_mem_of_length_pos h
 obtain⟨h1,h2⟩:=List.mem_filter.1 hx
 obtain⟨i,hi,rfl⟩:=List.mem_iff_getElem.1 h1
 refine⟨i,hi,?_⟩
 have:=Option.some.inj ((List.getElem?_eq_getElem hi).symm.trans (X1C hi))
 rw [← this];exact of_decide_eq_true h2
def EvR (room:Int) (l l':List X0g):Prop:=(((X0O l true:Nat):Int)≤room∧l'=l)∨(room<((X0O l true:Nat):Int)∧∃ i,XB4 l i∧l'=l.eraseIdx i)
def EvI (room:Int) (l l':List X0g):Prop:=l'=l∨(room<((X0O l true:Nat):Int)∧∃ i,XB4 l i∧l'=l.eraseIdx i)
theorem EvI.fin {room:Int} {l l':List X0g} (h:EvI room l l') (hr:((X0O l true:Nat):Int)≤room+1) (hs:¬ room<((X0O l' true:Nat):Int)):EvR room l l':=by
 rcases h with rfl | ⟨h1,i,h2,rfl⟩
 · exact .inl ⟨by omega,rfl⟩
 · exact .inr ⟨h1,i,h2,rfl⟩
theorem EvI.step {room:Int} {l l':List X0g} (h:EvI room l l') (hr:((X0O l true:Nat):Int)≤room+1) (hs:room<((X0O l' true:Nat):Int)) {i:Nat} (hi:XB4 l' i):EvI room l (l'.eraseIdx i):=by
 rcases h with rfl | ⟨h1,i',h2,rfl⟩
 · exact .inr ⟨hs,i,hi,rfl⟩
 ·
  have:=X6H h2.1 h2.2.1
  omega
theorem EvI.len {room:Int} {l l':List X0g} (h:EvI room l l'):l'.length≤l.length:=by
 rcases h with rfl | ⟨h1,i,h2,rfl⟩
 · exact Nat.le_refl _
 · exact List.length_eraseIdx_le ..
theorem X9n {j o o' n n' c c':Nat} (ho:o=o') (hn:n=n') (hc:c=c'):D.row j o n c=.row j o' n' c':=by subst ho hn hc;rfl
theorem XCm {k:Nat} (h:k≤1000000):(⟨#[98]⟩:ByteArray).size+(X2l k).size≤1000000000:=by
 have:=X7G h
 have e:(⟨#[98]⟩:ByteArray).size=1:=rfl
 omega
theorem X42 (l rest:List X0g):(((l++rest).flatMap X0U).drop 0).take (l.length*3)=l.flatMap X0U:=by rw [List.drop_zero,XB0]
theorem X81 (l rest:List X0g):0+l.length*3≤((l++rest).flatMap X0U).length:=by rw [X3D,List.length_append];omega
theorem XCn {l:List X0g} {i la:Nat} (hi:i<l.length) (ha:(l.getD i e0).2.2=true) (hlt:∀ j,la<j→j<l.length→(l.getD j e0).2.2=false) (hn:(l.getD la e0).2.2=false):i<la:=by
 rcases Nat.lt_trichotomy i la with h | h | h
 · exact h
 · subst h;rw [ha]at hn;cases hn
 · rw [hlt i h hi]at ha;cases ha
theorem X9o {l:List X0g} {la:Nat} (hlt:∀ j,la<j→j<l.length→(l.getD j e0).2.2=false) (hn:(l.getD la e0).2.2=false):∀ j,la - 1<j→j<l.length→(l.getD j e0).2.2=false:=fun j a b=>by
 by_cases e:j=la
 · subst e;exact hn
 · exact hlt j (by omega) b
end
end Go.Vai

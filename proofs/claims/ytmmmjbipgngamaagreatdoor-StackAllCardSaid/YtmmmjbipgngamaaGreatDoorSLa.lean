/-
  What is proved here: what was taken, told from the other end: the plain law between the two stacks. what the walks of the other stack ask for. what functions of the other stack come to (walks that a program of mine has printed). No conditions but those that the theorems state.
-/
import Derived.Test.YtmmmjbipgngamaaGreatDoorSKr
import Derived.Test.YtmmmjbipgngamaaGreatDoorRZc
set_option linter.unusedVariables false
set_option linter.unusedSimpArgs false
namespace Go.Vai
noncomputable section
abbrev X1T (l:List X0A):List ByteArray:=l.map Prod.fst
theorem X74 {l:List X0A} {name:ByteArray} (h:X0I l name<0):∀ i,i<l.length→¬ (l.getD i e0).1=name:=by
 intro i hi hn
 unfold X0I at h
 split at h
 · omega
 ·
  rename_i hf
  have:=List.findIdx?_eq_none_iff.1 hf _ (List.mem_of_getElem? (X10 hi))
  rw [decide_eq_true hn]at this;cases this
theorem X3B {l:List X0A} {i:Nat} (h:i<l.length):l.reverse.getD i e0=l.getD (l.length - 1 - i) e0:=by
 rw [List.getD_eq_getElem?_getD,List.getElem?_reverse h,List.getD_eq_getElem?_getD]
theorem X2l {l:List X0A} {name:ByteArray} (h:X0I l name<0):X0I l.reverse name<0:=by
 rcases X1Q l.reverse name with h' | ⟨i,h1,h2,h3,_⟩
 · exact h'
 ·
  rw [List.length_reverse]at h2
  rw [X3B h2]at h3
  exact absurd h3 (X74 h _ (by omega))
theorem X2m {l:List X0A} {name:ByteArray}:X0I l.reverse name<0↔X0I l name<0:=⟨fun h=>by have:=X2l h;rwa [List.reverse_reverse]at this,X2l⟩
theorem X4H.rev {l:List X0A} {n k:Nat} (h:X4H l.reverse n k):X4H l n k:=⟨h.1,X2m.1 h.2.1,fun j a b c=>h.2.2 j a b (X2m.2 c)⟩
theorem X4H.uniq {l:List X0A} {n k k':Nat} (h:X4H l n k) (h':X4H l n k'):k=k':=by
 rcases Nat.lt_trichotomy k k' with q | q | q
 · exact absurd h.2.1 (h'.2.2 k h.1 q)
 · exact q
 · exact absurd h'.2.1 (h.2.2 k' h'.1 q)
theorem XC1 {l:List X0A} (hn:(X1T l).Nodup) {i j:Nat} (hi:i<l.length) (hj:j<l.length) (h:(l.getD i e0).1=(l.getD j e0).1):i=j:=by
 have hi':i<(X1T l).length:=by rw [List.length_map];exact hi
 have hj':j<(X1T l).length:=by rw [List.length_map];exact hj
 refine(List.getElem_inj (h₀:=hi') (h₁:=hj') hn).1 ?_
 have e1:(X1T l)[i]=(l.getD i e0).1:=by
  have:=Option.some.inj ((List.getElem?_eq_getElem hi).symm.trans (X10 hi))
  rw [List.getElem_map,this]
 have e2:(X1T l)[j]=(l.getD j e0).1:=by
  have:=Option.some.inj ((List.getElem?_eq_getElem hj).symm.trans (X10 hj))
  rw [List.getElem_map,this]
 rw [e1,e2,h]
theorem X3C {l:List X0A} (hn:(X1T l).Nodup) (name:ByteArray):(X0I l name = -1∧X0I l.reverse name = -1)∨∃ i:Nat,i<l.length∧X0I l name=(i:Int)∧X0I l.reverse name=((l.length - 1 - i:Nat):Int)∧(l.getD i e0).1=name:=by
 rcases X1k l name with h | ⟨i,h,hi⟩
 ·
  left
  refine⟨h,?_⟩
  rcases X1k l.reverse name with h' | ⟨i,h',_⟩
  · exact h'
  · have:=X2l (l:=l) (name:=name) (by omega);omega
 ·
  right
  refine⟨i,hi,h,?_,?_⟩
  ·
   rcases X1Q l name with q | ⟨i0,a,b,c,_⟩
   · omega
   rcases X1Q l.reverse name with q | ⟨i1,a1,b1,c1,_⟩
   · have:=X2m.1 q;omega
   rw [List.length_reverse]at b1
   rw [X3B b1]at c1
   have:=XC1 hn b (by omega) (c.trans c1.symm)
   omega
  ·
   rcases X1Q l name with q | ⟨i0,a,b,c,_⟩
   · omega
   have:i0=i:=by omega
   rw [← this];exact c
theorem X4I (l:List X0A) (b:Bool):X0G l.reverse b=X0G l b:=by
 unfold X0G;rw [List.filter_reverse,List.length_reverse]
theorem X7l {l:List X0A} {i:Nat} (h:i<l.length):l.reverse.eraseIdx (l.length - 1 - i)=(l.eraseIdx i).reverse:=by
 rw [List.eraseIdx_eq_take_drop_succ,List.eraseIdx_eq_take_drop_succ,List.take_reverse,List.drop_reverse,List.reverse_append]
 rw [show l.length - (l.length - 1 - i)=i+1 by omega,show l.length - (l.length - 1 - i+1)=i by omega]
theorem XFs {l:List X0A} {i:Nat} (h:i<l.length) (x:X0A):l.reverse.set (l.length - 1 - i) x=(l.set i x).reverse:=by
 refine List.ext_getElem? fun j=>?_
 by_cases hj:j<l.length
 ·
  have e1:(l.set i x).reverse[j]?=(l.set i x)[l.length - 1 - j]?:=by
   have:=List.getElem?_reverse (l:=l.set i x) (i:=j) (by rw [List.length_set];exact hj)
   rwa [List.length_set]at this
  rw [e1,List.getElem?_set,List.getElem?_set,List.getElem?_reverse hj,List.length_reverse]
  by_cases e:l.length - 1 - i=j
  · rw [if_pos e,if_pos (by omega),if_pos (by omega),if_pos (by omega)]
  · rw [if_neg e,if_neg (by omega)]
 · rw [List.getElem?_eq_none (by rw [List.length_set,List.length_reverse];omega),List.getElem?_eq_none (by rw [List.length_reverse,List.length_set];omega)]
def X9u (l:List X0A) (i:Nat):Prop:=i<l.length∧(l.getD i e0).2.2=true∧∀ j,j<i→(l.getD j e0).2.2=false
def FvR (room:Int) (l l':List X0A):Prop:=(((X0G l true:Nat):Int)≤room∧l'=l)∨(room<((X0G l true:Nat):Int)∧∃ i,X9u l i∧l'=l.eraseIdx i)
theorem X9u.rev {l:List X0A} {i:Nat} (h:X9u l.reverse i):X7i l (l.length - 1 - i):=by
 obtain⟨h1,h2,h3⟩:=h
 rw [List.length_reverse]at h1
 refine⟨by omega,by rw [← X3B h1];exact h2,fun j a b=>?_⟩
 have:=h3 (l.length - 1 - j) (by omega)
 rwa [X3B (by omega),show l.length - 1 - (l.length - 1 - j)=j by omega]at this
theorem X7i.uniq {l:List X0A} {i j:Nat} (h:X7i l i) (h':X7i l j):i=j:=by
 obtain⟨a1,a2,a3⟩:=h
 obtain⟨b1,b2,b3⟩:=h'
 rcases Nat.lt_trichotomy i j with q | q | q
 · rw [a3 j q b1]at b2;cases b2
 · exact q
 · rw [b3 i q a1]at a2;cases a2
theorem XH3 {room:Int} {l l2 m2:List X0A} (h:EvR room l l2) (h':FvR room l.reverse m2):m2=l2.reverse:=by
 rcases h with⟨h1,rfl⟩ | ⟨h1,i,hi,rfl⟩
 ·
  rcases h' with⟨_,h⟩ | ⟨h,_⟩
  · exact h
  · rw [X4I]at h;omega
 ·
  rcases h' with⟨h,_⟩ | ⟨_,j,hj,rfl⟩
  · rw [X4I]at h;omega
  ·
   have hl:=hj.1
   rw [List.length_reverse]at hl
   have:=X7i.uniq hj.rev hi
   subst this
   have:=X7l (l:=l) (i:=l.length - 1 - j) (by omega)
   rwa [show l.length - 1 - (l.length - 1 - j)=j by omega]at this
def X3b (l:List X0A) (name text:ByteArray):List X0A:=if X0I l name<0 then l++[(name,text,false)]else l.set (X0I l name).toNat (name,text,false)
theorem XDl {l:List X0A} (hn:(X1T l).Nodup) (name text:ByteArray):X3b l.reverse name text=(X7O l name text).reverse:=by
 unfold X3b X7O
 rcases X3C hn name with⟨h1,h2⟩ | ⟨i,hi,h1,h2,_⟩
 · rw [h1,h2,if_pos (by decide),if_pos (by decide),List.reverse_cons]
 · rw [h1,h2,if_neg (by omega),if_neg (by omega),Int.toNat_natCast,Int.toNat_natCast,XFs hi]
theorem X9v {l:List X0A} (hn:(X1T l).Nodup) (name:ByteArray):X2O l.reverse name↔X2O l name:=by
 unfold X2O
 rw [X4I]
 rcases X3C hn name with⟨h1,h2⟩ | ⟨i,hi,h1,h2,_⟩
 · rw [h1,h2];simp
 ·
  rw [h1,h2,Int.toNat_natCast,Int.toNat_natCast,X3B (by omega),show l.length - 1 - (l.length - 1 - i)=i by omega]
  constructor<;>(rintro⟨a | a,b⟩<;>refine⟨?_,b⟩<;>first | exact .inr a | omega)
theorem XDm {l:List X0A} (hn:(X1T l).Nodup) (name:ByteArray):X15 l.reverse name=((X15 l name).1,(X15 l name).2.reverse):=by
 unfold X15
 rcases X3C hn name with⟨h1,h2⟩ | ⟨i,hi,h1,h2,_⟩
 · rw [h1,h2,if_pos (by decide),if_pos (by decide)]
 · rw [h1,h2,if_neg (by omega),if_neg (by omega),Int.toNat_natCast,Int.toNat_natCast,X7l hi]
def X61 (l:List X0A) (name:ByteArray):Int:=if name=ByteArray.empty then((l.length:Nat):Int) - 1 else X0I l name
def X0h (l:List X0A) (name:ByteArray):X0A×Bool:=if X61 l name<0 then(e0,false)else(l.getD (X61 l name).toNat e0,true)
theorem X5K {l:List X0A} (hn:(X1T l).Nodup) {name:ByteArray} (hne:¬ name=ByteArray.empty):(X0h l.reverse name).1.2.1=(X1j l name).1∧(X0h l.reverse name).2=(X1j l name).2:=by
 unfold X0h X61 X1j
 rw [if_neg hne]
 rcases X3C hn name with⟨h1,h2⟩ | ⟨i,hi,h1,h2,_⟩
 · rw [h1,h2,if_pos (by decide),if_pos (by decide)];exact⟨rfl,rfl⟩
 · rw [h1,h2,if_neg (by omega),if_neg (by omega),Int.toNat_natCast,Int.toNat_natCast,X3B (by omega),show l.length - 1 - (l.length - 1 - i)=i by omega];exact⟨rfl,rfl⟩
theorem X5L {l:List X0A} {i:Nat} (hi:i<l.length):(X1j l (l.getD i e0).1).2=true:=by
 unfold X1j
 split
 · rename_i h;exact absurd rfl (X74 h i hi)
 · rfl
theorem X4v (l:List X0A):(X0h l.reverse ByteArray.empty).1.1=(X0z l).1∧(X0h l.reverse ByteArray.empty).1.2.1=(X0z l).2.1∧(X0h l.reverse ByteArray.empty).2=(X0z l).2.2:=by
 unfold X0h X61 X0z
 rw [if_pos rfl,List.length_reverse]
 by_cases h:((l.length:Nat):Int)=0
 · rw [if_pos (by omega),if_pos h];exact⟨rfl,rfl,rfl⟩
 · rw [if_neg (by omega),if_neg h,X3B (by omega),show l.length - 1 - (((l.length:Nat):Int) - 1).toNat=0 by omega];exact⟨rfl,rfl,rfl⟩
structure X91 (room:Int) (l:List X0A):Prop where
 nd:(X1T l).Nodup
 ne:∀ e∈l,¬ e.1=ByteArray.empty
 sz:szE 30 l
 au:((X0G l true:Nat):Int)≤room
theorem X91.nil {room:Int} (h:1≤room):X91 room []:=⟨List.nodup_nil,(fun e he=>by cases he),(fun e he=>by cases he),(by show((0:Nat):Int)≤room;omega)⟩
theorem X7m {l l':List X0A} (h:l'.Sublist l) (hn:(X1T l).Nodup):(X1T l').Nodup:=(h.map _).nodup hn
theorem X5M {l:List X0A} (i:Nat) (b:Bool):X0G (l.eraseIdx i) b≤X0G l b:=((List.eraseIdx_sublist l i).filter _).length_le
theorem X91.erase {room:Int} {l:List X0A} (h:X91 room l) (i:Nat):X91 room (l.eraseIdx i) :=
 have s:=List.eraseIdx_sublist l i
 ⟨X7m s h.nd,fun e he=>h.ne e (s.subset he),fun e he=>h.sz e (s.subset he),by have:=X5M (l:=l) i true;have:=h.au;omega⟩
theorem X91.drop {room:Int} {l:List X0A} (h:X91 room l) (name:ByteArray):X91 room (X15 l name).2:=by
 unfold X15
 split
 · exact h
 · exact h.erase _
theorem nodup_cons {l:List X0A} {name t:ByteArray} {b:Bool} (h:X0I l name<0) (hn:(X1T l).Nodup):(X1T ((name,t,b)::l)).Nodup:=by
 refine List.nodup_cons.2 ⟨fun hm=>?_,hn⟩
 obtain⟨e,he,rfl⟩:=List.mem_map.1 hm
 obtain⟨i,hi,rfl⟩:=List.mem_iff_getElem.1 he
 have:=Option.some.inj ((List.getElem?_eq_getElem hi).symm.trans (X10 hi))
 exact X74 h i hi (by rw [← this])
theorem X91.push {room:Int} {l l2:List X0A} (h:X91 room l) {n k:Nat} (hk:X4H l n k) {t:ByteArray} (ht:t.size≤30) (he:EvR room ((bn k,t,true)::l) l2):X91 room l2∧l2.length≤l.length+1:=by
 have nd:=nodup_cons (t:=t) (b:=true) hk.2.1 h.nd
 have ne:∀ e∈(bn k,t,true)::l,¬ e.1=ByteArray.empty:=fun e he=>by
  rcases List.mem_cons.1 he with rfl | he
  · exact XBp k
  · exact h.ne e he
 have sz:szE 30 ((bn k,t,true)::l):=fun e he=>by
  rcases List.mem_cons.1 he with rfl | he
  · exact ht
  · exact h.sz e he
 rcases he with⟨h1,rfl⟩ | ⟨h1,i,hi,rfl⟩
 · exact⟨⟨nd,ne,sz,h1⟩,Nat.le_refl _⟩
 ·
  have s:=List.eraseIdx_sublist ((bn k,t,true)::l) i
  refine⟨⟨X7m s nd,fun e he=>ne e (s.subset he),fun e he=>sz e (s.subset he),?_⟩,s.length_le⟩
  have a:=X3A hi.1 hi.2.1
  have b:=X0t (bn k,t,true) l true
  rw [if_pos rfl]at b
  have:=h.au
  omega
theorem XC2 {l:List X0A} {i:Nat} {t:ByteArray} {b:Bool} (hi:i<l.length):X1T (l.set i ((l.getD i e0).1,t,b))=X1T l:=by
 rw [X1T,List.map_set]
 refine List.ext_getElem? fun j=>?_
 rw [List.getElem?_set]
 split
 ·
  rename_i e;subst e
  rw [List.length_map,if_pos hi,List.getElem?_map,X10 hi];rfl
 · rfl
theorem XAc {l:List X0A} {i:Nat} {n t:ByteArray}:X0G (l.set i (n,t,false)) true≤X0G l true:=by
 induction l generalizing i with
 | nil=>exact Nat.le_refl _
 | cons a l ih =>
  cases i with
  | zero=>rw [List.set_cons_zero,X0t,X0t,if_neg (show ¬ ((n,t,false):X0A).2.2=true from Bool.false_ne_true)];omega
  | succ i=>rw [List.set_cons_succ,X0t,X0t];have:=ih (i:=i);omega
theorem X91.set {room:Int} {l:List X0A} (h:X91 room l) {name t:ByteArray} (hne:¬ name=ByteArray.empty) (ht:t.size≤30):X91 room (X7O l name t):=by
 unfold X7O
 rcases X3C h.nd name with⟨h1,_⟩ | ⟨i,hi,h1,_,h2⟩
 ·
  rw [h1,if_pos (by decide)]
  refine⟨nodup_cons (by omega) h.nd,fun e he=>?_,fun e he=>?_,(by rw [X0t,if_neg (show ¬ ((name,t,false):X0A).2.2=true from Bool.false_ne_true)];exact h.au)⟩
  ·
   rcases List.mem_cons.1 he with rfl | he
   · exact hne
   · exact h.ne e he
  ·
   rcases List.mem_cons.1 he with rfl | he
   · exact ht
   · exact h.sz e he
 ·
  rw [h1,if_neg (by omega),Int.toNat_natCast]
  refine⟨by rw [← h2,XC2 hi];exact h.nd,fun e he=>?_,fun e he=>?_,?_⟩
  ·
   rcases List.mem_or_eq_of_mem_set he with he | rfl
   · exact h.ne e he
   · exact hne
  ·
   rcases List.mem_or_eq_of_mem_set he with he | rfl
   · exact h.sz e he
   · exact ht
  · have:=XAc (l:=l) (i:=i) (n:=name) (t:=t);have:=h.au;omega
theorem szE.mono {m n:Nat} {l:List X0A} (h:szE m l) (hl:m≤n):szE n l:=fun e he=>Nat.le_trans (h e he) hl
end
end Go.Vai
namespace Go.Vai
open Go.RowKit
noncomputable section
theorem XFt {p q:Bool}:(bif p then(bif q then false else true)else(bif q then true else false))=decide (¬ p=q):=by cases p<;>cases q<;>rfl
theorem X1K (m:List X0A):((m.flatMap X04).drop 0).take (m.length*3)=m.flatMap X04:=by
 rw [List.drop_zero,List.take_of_length_le (Nat.le_of_eq (X1F m))]
theorem X2P (m:List X0A):0+m.length*3≤(m.flatMap X04).length:=by rw [X1F];omega
theorem XH4 {e n n':Nat} {cs cs':List D} (hn:n=n') (hc:cs=cs'):D.sl e n cs=.sl e n' cs':=by subst hn hc;rfl
theorem XAd (m:List X0A) (i:Nat):((m.flatMap X04).drop (0*3)).take ((i - 0)*3)=(m.take i).flatMap X04:=by
 rw [Nat.zero_mul,List.drop_zero,Nat.sub_zero,X2Y]
theorem XAe (m:List X0A) (i:Nat):((m.flatMap X04).drop ((i+1)*3)).take ((m.length - (i+1))*3)=(m.drop (i+1)).flatMap X04:=by
 rw [X39,X2Y,List.take_of_length_le (by rw [List.length_drop];exact Nat.le_refl _)]
theorem X92 (m:List X0A) (i:Nat):(m.take i).flatMap X04++(m.drop (i+1)).flatMap X04=(m.eraseIdx i).flatMap X04:=by
 rw [List.eraseIdx_eq_take_drop_succ,List.flatMap_append]
theorem XC3:∀ m:List X0A,(m.flatMap X04).all X22=true
 | []=>rfl
 | e::m=>by
  rw [List.flatMap_cons,List.all_append,XC3 m];rfl
theorem XC4 {m:List X0A} {i:Nat} (h:i<m.length):i+(m.length - (i+1))=(m.eraseIdx i).length:=by
 rw [List.length_eraseIdx_of_lt h];omega
theorem X6N {m:List X0A} {i:Nat} {n t:ByteArray} {b:Bool} (hi:i<m.length):(m.flatMap X04).take (i*3)++[.str n,.str t,.bool b]++(m.flatMap X04).drop (i*3+[D.str n,.str t,.bool b].length)=(m.set i (n,t,b)).flatMap X04:=by
 have:=X5J (l:=m) (rest:=[]) (n:=n) (t:=t) (b:=b) hi
 rwa [List.append_nil,List.append_nil]at this
theorem X2Z {l:List X0A} {i:Nat} (h:i<l.length):(l.map Prod.fst).getD i ByteArray.empty=(l.getD i e0).1:=by
 rw [List.getD_eq_getElem?_getD,List.getElem?_map,X10 h];rfl
theorem X9w {l:List X0A} {i:Nat} (hne:∀ e∈l,¬ e.1=ByteArray.empty) (h:i<l.length):¬ (l.getD i e0).1=ByteArray.empty:=hne _ (List.mem_of_getElem? (X10 h))
theorem X9x {m:List X0A} {name:ByteArray} {i:Int} (h:X61 m name=i) (hi:i<0):X0h m name=(e0,false):=by
 unfold X0h;rw [h,if_pos hi]
theorem XC5 {m:List X0A} {name:ByteArray} {i:Int} (h:X61 m name=i) (hi:¬ i<0):X0h m name=(m.getD i.toNat e0,true):=by
 unfold X0h;rw [h,if_neg hi]
theorem X75 {k:Nat} {l:List X0A} (h:szE k l) (name:ByteArray):(X0h l name).1.2.1.size≤k:=by
 unfold X0h;split
 · exact Nat.zero_le _
 · exact X8t h _
def NxI (l:List X0A) (n nx:Nat):Prop:=n≤nx∧nx+XBq l nx≤n+l.length∧∀ j,n≤j→j<nx→¬ X0I l (bn j)<0
theorem NxI.init {l:List X0A} {n:Nat}:NxI l n n:=⟨Nat.le_refl _,by have:=X8x l n;omega,fun j a b=>by omega⟩
theorem NxI.step {l:List X0A} {n nx:Nat} (h:NxI l n nx) (hf:¬ X0I l (bn nx)<0):NxI l n (nx+1):=by
 obtain⟨h1,h2,h3⟩:=h
 have:=X71 hf
 refine⟨by omega,by omega,fun j a b=>?_⟩
 by_cases e:j=nx
 · subst e;exact hf
 · exact h3 j a (by omega)
theorem NxI.fin {l:List X0A} {n nx:Nat} (h:NxI l n nx) (hf:X0I l (bn nx)<0):X4H l n nx:=⟨h.1,hf,h.2.2⟩
theorem NxI.le {l:List X0A} {n nx:Nat} (h:NxI l n nx):nx≤n+l.length:=by have:=h.2.1;omega
theorem OD.toL {P:Program} {ov:Ov} {C:Cx0} {ops:Array Oper} {l:List Oper} {E:X0m} {L L':List Ob} {q:SD→Prop} (e:L=L') (h:OD P ov C ops l ⟨E,L'⟩ q):OD P ov C ops l ⟨E,L⟩ q:=e ▸ h
def X76 (l:List X0A) (i n:Nat) (f:Int):Prop:=n=X0G (l.take i) true∧(f = -1∧n=0∨∃ k:Nat,f=(k:Int)∧k<i∧(l.getD k e0).2.2=true∧∀ j,j<k→(l.getD j e0).2.2=false)
theorem X76.none_before {l:List X0A} {i n:Nat} (hi:i≤l.length) (h:n=X0G (l.take i) true) (h0:n=0):∀ j,j<i→(l.getD j e0).2.2=false:=by
 intro j hj
 cases e:(l.getD j e0).2.2 with
 | false=>rfl
 | true =>
  exfalso
  have hlt:j<(l.take i).length:=by rw [List.length_take];omega
  have g:(l.take i).getD j e0=l.getD j e0:=by rw [List.getD_eq_getElem?_getD,List.getElem?_take,if_pos hj,List.getD_eq_getElem?_getD]
  have:=X3A (b:=true) hlt (by rw [g];exact e)
  omega
theorem X76.init {l:List X0A}:X76 l 0 0 (-1):=⟨rfl,.inl ⟨rfl,rfl⟩⟩
theorem X76.no {l:List X0A} {i n:Nat} {f:Int} (h:X76 l i n f) (hi:i<l.length) (ha:(l.getD i e0).2.2=false):X76 l (i+1) n f:=by
 obtain⟨h1,h2⟩:=h
 refine⟨by rw [X1R hi,← h1,if_neg (by rw [ha];decide)];rfl,?_⟩
 rcases h2 with h2 | ⟨k,a,b,c,d⟩
 · exact .inl h2
 · exact .inr ⟨k,a,by omega,c,d⟩
theorem X76.first {l:List X0A} {i n:Nat} {f:Int} (h:X76 l i n f) (hi:i<l.length) (ha:(l.getD i e0).2.2=true) (hf:f<0):X76 l (i+1) (n+1) ((i:Nat):Int):=by
 obtain⟨h1,h2⟩:=h
 refine⟨by rw [X1R hi,← h1,if_pos ha],?_⟩
 rcases h2 with⟨a,b⟩ | ⟨k,a,b,c,d⟩
 · exact .inr ⟨i,rfl,by omega,ha,X76.none_before (by omega) h1 b⟩
 · omega
theorem X76.more {l:List X0A} {i n:Nat} {f:Int} (h:X76 l i n f) (hi:i<l.length) (ha:(l.getD i e0).2.2=true) (hf:¬ f<0):X76 l (i+1) (n+1) f:=by
 obtain⟨h1,h2⟩:=h
 refine⟨by rw [X1R hi,← h1,if_pos ha],?_⟩
 rcases h2 with⟨a,b⟩ | ⟨k,a,b,c,d⟩
 · omega
 · exact .inr ⟨k,a,by omega,c,d⟩
theorem X76.le {l:List X0A} {i n:Nat} {f:Int} (h:X76 l i n f):n≤i:=by
 rw [h.1]
 refine Nat.le_trans (X7h _ _) ?_
 rw [List.length_take];omega
theorem X76.fin {l:List X0A} {i n:Nat} {f:Int} (h:X76 l i n f) (hi:i=l.length):n=X0G l true∧(0<n→∃ k:Nat,f=(k:Int)∧X9u l k):=by
 subst hi
 obtain⟨h1,h2⟩:=h
 rw [List.take_length]at h1
 refine⟨h1,fun hn=>?_⟩
 rcases h2 with⟨a,b⟩ | ⟨k,a,b,c,d⟩
 · omega
 · exact⟨k,a,b,c,d⟩
end
end Go.Vai
namespace Go.Proofs.YtmmmjbipgngamaaGreatDoor
open Go.Vai
noncomputable section
theorem XDn {s:ByteArray} (h:X1J s=true):¬ s=ByteArray.empty:=fun e=>by
 have h1:=(X32.1 h).1
 have h0:s.size=0:=by rw [e];rfl
 omega
theorem XFu {l:List X0A} {nm t:ByteArray} (h:¬ (¬ (X1J nm=true∧¬ t=ByteArray.empty)∨X2O l nm)):X1J nm=true∧¬ t=ByteArray.empty∧¬ X2O l nm :=
 have h1:=not_or.1 h
 have h2:=Classical.not_not.1 h1.1
 ⟨h2.1,h2.2,h1.2⟩
def X4h (m:List X0A) (name:ByteArray):ByteArray×Bool:=bif (X0h m name).2 then(oscT (X0h m name).1.2.1,true)else(ByteArray.empty,false)
theorem XC6 {l:List X0A} (hn:(X1T l).Nodup) {name:ByteArray} (hne:¬ name=ByteArray.empty):X4h l.reverse name=X0k l name:=by
 obtain⟨h1,h2⟩:=X5K hn hne
 unfold X4h X0k
 rw [h1,h2,if_neg hne,if_neg hne]
theorem XDo (l:List X0A):X4h l.reverse ByteArray.empty=X0k l ByteArray.empty:=by
 obtain⟨_,h1,h2⟩:=X4v l
 unfold X4h X0k
 rw [h1,h2,if_pos rfl,if_pos rfl]
theorem XC7 {l:List X0A} {i:Nat} (hi:i<l.length) (hne:¬ (l.getD i e0).1=ByteArray.empty):(X0k l (l.getD i e0).1).2=true:=by
 unfold X0k
 rw [if_neg hne,X5L hi];rfl
end
end Go.Proofs.YtmmmjbipgngamaaGreatDoor
set_option maxRecDepth 100000
set_option maxHeartbeats 4000000
namespace Go.Proofs.YtmmmjbipgngamaaGreatDoor
open Go.Vai Go.RowKit
noncomputable section
theorem X4w (room next:Int) (ms:List X0A) (name:ByteArray) (hm:ms.length≤1000000):X2G P ov 36 [.bx [.int .i64 room,.sl 3 ms.length (ms.flatMap X04),.int .i64 next] 0,.str name] (.int .i64 (X0I ms name)):=by
 refine FnD.intro (by kernel_rfl) (fn:=Tryz.f36) (by kernel_rfl) rfl (by kernel_rfl) fun M a0 g0 hg0=>?_
 refine CD.seq ?_
 refine CD.region ?_
 refine OD.runE 1 [0,1] (E':=[(0,.bx [.int .i64 room,.sl 3 ms.length (ms.flatMap X04),.int .i64 next] 0),(1,.str name)]) (by kernel_rfl) ?_
 refine OD.nil ?_
 refine CD.seq ?_
 refine CD.seq ?_
 refine CD.region ?_
 refine OD.runE 1 [0,1,5] (E':=[(0,.bx [.int .i64 room,.sl 3 ms.length (ms.flatMap X04),.int .i64 next] 0),(1,.str name),(5,.int .i64 0)]) (by kernel_rfl) ?_
 refine OD.nil ?_
 refine CD.block ?_
 refine CD.weak [0,1,5] 0 (E':=[(0,.bx [.int .i64 room,.sl 3 ms.length (ms.flatMap X04),.int .i64 next] 0),(1,.str name),(5,.int .i64 0)]) (by kernel_rfl) (by simp [hg0]) (by kernel_rfl) ?_
 refine CD.loop (fun m σ=>∃ (i:Nat),σ=⟨[(0,.bx [.int .i64 room,.sl 3 ms.length (ms.flatMap X04),.int .i64 next] 0),(1,.str name),(5,.int .i64 ((i:Nat):Int))],[]⟩∧(i≤ms.length)∧(∀ j,j<i→¬ (ms.getD j e0).1=name)∧m=ms.length - i) (fun m σ hI=>?_) _ ⟨0,(by kernel_rfl),Nat.zero_le _,(fun j hj=>absurd hj (Nat.not_lt_zero j)),rfl⟩
 obtain⟨i,e,hi,hn,hm⟩:=hI
 subst e hm
 refine CD.seq ?_
 refine CD.seq ?_
 refine CD.region ?_
 refine OD.runE 7 [0,1,5,12] (E':=[(0,.bx [.int .i64 room,.sl 3 ms.length (ms.flatMap X04),.int .i64 next] 0),(1,.str name),(5,.int .i64 ((i:Nat):Int)),(12,.bool (decide ((((i:Nat):Int):Int)<((ms.length:Nat):Int))))]) (by kernel_rfl) ?_
 refine OD.nil ?_
 refine CD.condP rfl (fun h1=>?_) (fun h1=>?_)
 ·
  refine CD.skip ?_
  refine CD.seq ?_
  refine CD.block ?_
  refine CD.seq ?_
  refine CD.region ?_
  refine OD.runE 5 [0,1,5,18,19] (E':=[(0,.bx [.int .i64 room,.sl 3 ms.length (ms.flatMap X04),.int .i64 next] 0),(1,.str name),(5,.int .i64 ((i:Nat):Int)),(18,.sl 3 ms.length (ms.flatMap X04)),(19,.int .i64 ((i:Nat):Int))]) (by kernel_rfl) ?_
  refine OD.idxSE (i:=i) (e:=3) rfl rfl (by kernel_rfl) (by omega) (by omega) ?_
  refine OD.runE 1 [0,1,5,21] (E':=[(0,.bx [.int .i64 room,.sl 3 ms.length (ms.flatMap X04),.int .i64 next] 0),(1,.str name),(5,.int .i64 ((i:Nat):Int)),(21,.ep 3 ms.length (ms.flatMap X04) (i*3+0))]) (by kernel_rfl) ?_
  refine OD.ldL (d:=.str ((ms.getD i e0).1)) rfl (by kernel_rfl) (X23 (k:=0) (by omega) (by decide) rfl) ?_
  refine OD.runE 1 [0,1,5,22,23] (E':=[(0,.bx [.int .i64 room,.sl 3 ms.length (ms.flatMap X04),.int .i64 next] 0),(1,.str name),(5,.int .i64 ((i:Nat):Int)),(22,.str ((ms.getD i e0).1)),(23,.str name)]) (by kernel_rfl) ?_
  refine OD.eqS rfl rfl ?_
  refine OD.runE 0 [0,1,5,24] (E':=[(0,.bx [.int .i64 room,.sl 3 ms.length (ms.flatMap X04),.int .i64 next] 0),(1,.str name),(5,.int .i64 ((i:Nat):Int)),(24,.bool (decide ((ms.getD i e0).1=name)))]) (by kernel_rfl) ?_
  refine OD.nil ?_
  refine CD.condP rfl (fun h2=>?_) (fun h2=>?_)
  ·
   refine CD.seq ?_
   refine CD.region ?_
   refine OD.runE 2 [4] (E':=[(4,.int .i64 ((i:Nat):Int))]) (by kernel_rfl) ?_
   refine OD.nil ?_
   refine CD.ret ?_
   exact X36 (by kernel_rfl) (by kernel_rfl) (r:=.int .i64 ((i:Nat):Int)) (congrArg (D.int .i64) (X7g (by omega) hn (by assumption)).symm)
  ·
   refine CD.skip ?_
   refine CD.region ?_
   refine OD.runE 2 [0,1,14] (E':=[(0,.bx [.int .i64 room,.sl 3 ms.length (ms.flatMap X04),.int .i64 next] 0),(1,.str name),(14,.int .i64 (X0X .i64 (((i:Nat):Int)+1)))]) (by kernel_rfl) ?_
   refine OD.is 14 rfl (wrn (m:=i+1) (by omega) (by omega)) ?_
   refine OD.runE 1 [0,1,5] (E':=[(0,.bx [.int .i64 room,.sl 3 ms.length (ms.flatMap X04),.int .i64 next] 0),(1,.str name),(5,.int .i64 ((i+1:Nat):Int))]) (by kernel_rfl) ?_
   refine OD.nil ?_
   exact⟨_,by omega,i+1,(by kernel_rfl),by omega,X6K hn (by assumption),rfl⟩
 ·
  refine CD.exit ?_
  refine CD.seq ?_
  refine CD.region ?_
  refine OD.runE 1 [4] (E':=[(4,.int .i64 (-1))]) (by kernel_rfl) ?_
  refine OD.nil ?_
  refine CD.ret ?_
  exact X36 (by kernel_rfl) (by kernel_rfl) (r:=.int .i64 (-1)) (congrArg (D.int .i64) (X6J (by assumption) hn).symm)
theorem X77 (room next:Int) (ms:List X0A) (name:ByteArray) (hm:ms.length≤1000000):X2G P ov 40 [.bx [.int .i64 room,.sl 3 ms.length (ms.flatMap X04),.int .i64 next] 0,.str name] (.tup [.agg [.str ((X0h ms name).1.1),.str ((X0h ms name).1.2.1),.bool (X0h ms name).1.2.2],.bool (X0h ms name).2]):=by
 have hfl:=X9p ms name
 refine FnD.intro (by kernel_rfl) (fn:=Tryz.f40) (by kernel_rfl) rfl (by kernel_rfl) fun M a0 g0 hg0=>?_
 refine CD.seq ?_
 refine CD.region ?_
 refine OD.run 2 [0,1,4] (E':=[(0,.bx [.int .i64 room,.sl 3 ms.length (ms.flatMap X04),.int .i64 next] 0),(1,.str name),(4,.loc 0 0)]) (L':=[.box [.str ByteArray.empty,.str ByteArray.empty,.bool false]]) (by kernel_rfl) ?_
 refine OD.nil ?_
 refine CD.seq ?_
 refine CD.region ?_
 refine OD.runE 6 [0,1,4,12] (E':=[(0,.bx [.int .i64 room,.sl 3 ms.length (ms.flatMap X04),.int .i64 next] 0),(1,.str name),(4,.loc 0 0),(12,.int .i64 (X0X .i64 (((ms.length:Nat):Int) - 1)))]) (by kernel_rfl) ?_
 refine OD.is 12 rfl (wr64 (by omega) (by omega)) ?_
 refine OD.runE 1 [0,1,4,6] (E':=[(0,.bx [.int .i64 room,.sl 3 ms.length (ms.flatMap X04),.int .i64 next] 0),(1,.str name),(4,.loc 0 0),(6,.int .i64 (((ms.length:Nat):Int) - 1))]) (by kernel_rfl) ?_
 refine OD.nil ?_
 refine CD.seq ?_
 refine CD.seq ?_
 refine CD.region ?_
 refine OD.runE 1 [0,1,4,6,13] (E':=[(0,.bx [.int .i64 room,.sl 3 ms.length (ms.flatMap X04),.int .i64 next] 0),(1,.str name),(4,.loc 0 0),(6,.int .i64 (((ms.length:Nat):Int) - 1)),(13,.str name)]) (by kernel_rfl) ?_
 refine OD.neS rfl rfl ?_
 refine OD.runE 0 [0,1,4,6,14] (E':=[(0,.bx [.int .i64 room,.sl 3 ms.length (ms.flatMap X04),.int .i64 next] 0),(1,.str name),(4,.loc 0 0),(6,.int .i64 (((ms.length:Nat):Int) - 1)),(14,.bool (decide (¬ name=ByteArray.empty)))]) (by kernel_rfl) ?_
 refine OD.nil ?_
 refine CD.condP rfl (fun h1=>?_) (fun h1=>?_)
 ·
  refine CD.region ?_
  refine OD.runE 2 [0,4,15,16] (E':=[(0,.bx [.int .i64 room,.sl 3 ms.length (ms.flatMap X04),.int .i64 next] 0),(4,.loc 0 0),(15,.bx [.int .i64 room,.sl 3 ms.length (ms.flatMap X04),.int .i64 next] 0),(16,.str name)]) (by kernel_rfl) ?_
  refine OD.callE (X4w room next ms name hm) rfl (by kernel_rfl) (by kernel_rfl) (by kernel_rfl) ?_
  refine OD.runE 1 [0,4,6] (E':=[(0,.bx [.int .i64 room,.sl 3 ms.length (ms.flatMap X04),.int .i64 next] 0),(4,.loc 0 0),(6,.int .i64 (X0I ms name))]) (by kernel_rfl) ?_
  refine OD.nil ?_
  refine CD.seq ?_
  refine CD.seq ?_
  refine CD.region ?_
  refine OD.runE 2 [0,4,6,19] (E':=[(0,.bx [.int .i64 room,.sl 3 ms.length (ms.flatMap X04),.int .i64 next] 0),(4,.loc 0 0),(6,.int .i64 (X0I ms name)),(19,.bool (decide (((X0I ms name):Int)<0)))]) (by kernel_rfl) ?_
  refine OD.nil ?_
  refine CD.condP rfl (fun h2=>?_) (fun h2=>?_)
  ·
   refine CD.seq ?_
   refine CD.region ?_
   refine OD.runE 3 [4,5] (E':=[(4,.loc 0 0),(5,.bool false)]) (by kernel_rfl) ?_
   refine OD.nil ?_
   refine CD.ret ?_
   exact X36 (by kernel_rfl) (by kernel_rfl) (r:=.tup [.agg [.str ByteArray.empty,.str ByteArray.empty,.bool false],.bool false]) ((by have hg:=X9x (i:=X0I ms name) (by unfold X61;first | rw [if_neg (by assumption)] | rw [if_pos (Classical.not_not.1 (by assumption))]) (by assumption);rw [hg]<;>rfl))
  ·
   refine CD.skip ?_
   refine CD.seq ?_
   refine CD.region ?_
   refine OD.runE 5 [4,24,25] (E':=[(4,.loc 0 0),(24,.sl 3 ms.length (ms.flatMap X04)),(25,.int .i64 (X0I ms name))]) (by kernel_rfl) ?_
   refine OD.idxSE (i:=(X0I ms name).toNat) (e:=3) rfl rfl (by kernel_rfl) (by omega) (by omega) ?_
   refine OD.runE 0 [4,26] (E':=[(4,.loc 0 0),(26,.ep 3 ms.length (ms.flatMap X04) (((X0I ms name).toNat)*3))]) (by kernel_rfl) ?_
   refine OD.ldA (ds:=[.str ((ms.getD ((X0I ms name).toNat) e0).1),.str ((ms.getD ((X0I ms name).toNat) e0).2.1),.bool (ms.getD ((X0I ms name).toNat) e0).2.2]) rfl (by kernel_rfl) (by kernel_rfl) (X3R (by omega)) rfl (by decide) ?_
   refine OD.run 2 [4,5] (E':=[(4,.loc 0 0),(5,.bool true)]) (L':=[.box [.str ((ms.getD ((X0I ms name).toNat) e0).1),.str ((ms.getD ((X0I ms name).toNat) e0).2.1),.bool (ms.getD ((X0I ms name).toNat) e0).2.2]]) (by kernel_rfl) ?_
   refine OD.nil ?_
   refine CD.ret ?_
   exact X36 (by kernel_rfl) (by kernel_rfl) (r:=.tup [.agg [.str ((ms.getD ((X0I ms name).toNat) e0).1),.str ((ms.getD ((X0I ms name).toNat) e0).2.1),.bool (ms.getD ((X0I ms name).toNat) e0).2.2],.bool true]) ((by have hg:=XC5 (i:=X0I ms name) (by unfold X61;first | rw [if_neg (by assumption)] | rw [if_pos (Classical.not_not.1 (by assumption))]) (by assumption);rw [hg]<;>rfl))
 ·
  refine CD.skip ?_
  refine CD.seq ?_
  refine CD.seq ?_
  refine CD.region ?_
  refine OD.runE 2 [0,4,6,19] (E':=[(0,.bx [.int .i64 room,.sl 3 ms.length (ms.flatMap X04),.int .i64 next] 0),(4,.loc 0 0),(6,.int .i64 (((ms.length:Nat):Int) - 1)),(19,.bool (decide ((((ms.length:Nat):Int) - 1:Int)<0)))]) (by kernel_rfl) ?_
  refine OD.nil ?_
  refine CD.condP rfl (fun h3=>?_) (fun h3=>?_)
  ·
   refine CD.seq ?_
   refine CD.region ?_
   refine OD.runE 3 [4,5] (E':=[(4,.loc 0 0),(5,.bool false)]) (by kernel_rfl) ?_
   refine OD.nil ?_
   refine CD.ret ?_
   exact X36 (by kernel_rfl) (by kernel_rfl) (r:=.tup [.agg [.str ByteArray.empty,.str ByteArray.empty,.bool false],.bool false]) ((by have hg:=X9x (i:=((ms.length:Nat):Int) - 1) (by unfold X61;first | rw [if_neg (by assumption)] | rw [if_pos (Classical.not_not.1 (by assumption))]) (by assumption);rw [hg]<;>rfl))
  ·
   refine CD.skip ?_
   refine CD.seq ?_
   refine CD.region ?_
   refine OD.runE 5 [4,24,25] (E':=[(4,.loc 0 0),(24,.sl 3 ms.length (ms.flatMap X04)),(25,.int .i64 (((ms.length:Nat):Int) - 1))]) (by kernel_rfl) ?_
   refine OD.idxSE (i:=(((ms.length:Nat):Int) - 1).toNat) (e:=3) rfl rfl (by kernel_rfl) (by omega) (by omega) ?_
   refine OD.runE 0 [4,26] (E':=[(4,.loc 0 0),(26,.ep 3 ms.length (ms.flatMap X04) (((((ms.length:Nat):Int) - 1).toNat)*3))]) (by kernel_rfl) ?_
   refine OD.ldA (ds:=[.str ((ms.getD ((((ms.length:Nat):Int) - 1).toNat) e0).1),.str ((ms.getD ((((ms.length:Nat):Int) - 1).toNat) e0).2.1),.bool (ms.getD ((((ms.length:Nat):Int) - 1).toNat) e0).2.2]) rfl (by kernel_rfl) (by kernel_rfl) (X3R (by omega)) rfl (by decide) ?_
   refine OD.run 2 [4,5] (E':=[(4,.loc 0 0),(5,.bool true)]) (L':=[.box [.str ((ms.getD ((((ms.length:Nat):Int) - 1).toNat) e0).1),.str ((ms.getD ((((ms.length:Nat):Int) - 1).toNat) e0).2.1),.bool (ms.getD ((((ms.length:Nat):Int) - 1).toNat) e0).2.2]]) (by kernel_rfl) ?_
   refine OD.nil ?_
   refine CD.ret ?_
   exact X36 (by kernel_rfl) (by kernel_rfl) (r:=.tup [.agg [.str ((ms.getD ((((ms.length:Nat):Int) - 1).toNat) e0).1),.str ((ms.getD ((((ms.length:Nat):Int) - 1).toNat) e0).2.1),.bool (ms.getD ((((ms.length:Nat):Int) - 1).toNat) e0).2.2],.bool true]) ((by have hg:=XC5 (i:=((ms.length:Nat):Int) - 1) (by unfold X61;first | rw [if_neg (by assumption)] | rw [if_pos (Classical.not_not.1 (by assumption))]) (by assumption);rw [hg]<;>rfl))
theorem XC8 (room next:Int) (ms:List X0A) (name:ByteArray) (hm:ms.length≤1000000) (hs:szE 1000 ms):X2G P ov 41 [.bx [.int .i64 room,.sl 3 ms.length (ms.flatMap X04),.int .i64 next] 0,.str name] (.tup [.str (X4h ms name).1,.bool (X4h ms name).2]):=by
 refine FnD.intro (by kernel_rfl) (fn:=Tryz.f41) (by kernel_rfl) rfl (by kernel_rfl) fun M a0 g0 hg0=>?_
 refine CD.seq ?_
 refine CD.region ?_
 refine OD.runE 2 [0,1] (E':=[(0,.bx [.int .i64 room,.sl 3 ms.length (ms.flatMap X04),.int .i64 next] 0),(1,.str name)]) (by kernel_rfl) ?_
 refine OD.nil ?_
 refine CD.seq ?_
 refine CD.region ?_
 refine OD.runE 2 [9,10] (E':=[(9,.bx [.int .i64 room,.sl 3 ms.length (ms.flatMap X04),.int .i64 next] 0),(10,.str name)]) (by kernel_rfl) ?_
 refine OD.callE (X77 room next ms name hm) rfl (by kernel_rfl) (by kernel_rfl) (by kernel_rfl) ?_
 refine OD.run 6 [6,7] (E':=[(6,.loc 0 0),(7,.bool (X0h ms name).2)]) (L':=[.box [.str ((X0h ms name).1.1),.str ((X0h ms name).1.2.1),.bool (X0h ms name).1.2.2]]) (by kernel_rfl) ?_
 refine OD.nil ?_
 refine CD.seq ?_
 refine CD.seq ?_
 refine CD.region ?_
 refine OD.runE 2 [6,15] (E':=[(6,.loc 0 0),(15,.bool (!(X0h ms name).2))]) (by kernel_rfl) ?_
 refine OD.nil ?_
 refine CD.condB rfl (fun h1=>?_) (fun h1=>?_)
 ·
  have h1:=XES h1
  refine CD.seq ?_
  refine CD.region ?_
  refine OD.runE 2 [4,5] (E':=[(4,.str ByteArray.empty),(5,.bool false)]) (by kernel_rfl) ?_
  refine OD.nil ?_
  refine CD.ret ?_
  exact X36 (by kernel_rfl) (by kernel_rfl) (r:=.tup [.str ByteArray.empty,.bool false]) ((by unfold X4h;simp only [h1,cond_true,cond_false]<;>rfl))
 ·
  have h1:=XDL h1
  refine CD.skip ?_
  refine CD.seq ?_
  refine CD.drawnR 5 0 7 1 (rl:=[{ dst:=some 16,op:=Go.Op.buildSlice 66 1 #[(0,Go.Operand.const (Go.Value.int Go.IntKind.u8 27))],type:=66,pos := "ref.go:214", after:=#[],guard:=none },{ dst:=some 23,op:=Go.Op.buildSlice 66 1 #[(0,Go.Operand.const (Go.Value.int Go.IntKind.u8 7))],type:=66,pos := "ref.go:214", after:=#[],guard:=none }]) rfl (by kernel_rfl) (by kernel_rfl) ?_
  refine OD.runE 2 [6,17] (E':=[(6,.loc 0 0),(17,.str (⟨#[27]⟩:ByteArray))]) (by kernel_rfl) ?_
  refine OD.catS rfl rfl (by decide) ?_
  refine OD.is 18 rfl (congrArg D.str (show _=(⟨#[27,93,53,50,59,99,59]⟩:ByteArray)from(by decide +kernel))) ?_
  refine OD.runE 2 [17,18,20] (E':=[(17,.str (⟨#[27]⟩:ByteArray)),(18,.str (⟨#[27,93,53,50,59,99,59]⟩:ByteArray)),(20,.str ((X0h ms name).1.2.1))]) (by kernel_rfl) ?_
  refine OD.callE (XFo ((X0h ms name).1.2.1) (X75 hs name)) rfl (by kernel_rfl) (by kernel_rfl) (by kernel_rfl) ?_
  refine OD.runE 0 [17,18,21] (E':=[(17,.str (⟨#[27]⟩:ByteArray)),(18,.str (⟨#[27,93,53,50,59,99,59]⟩:ByteArray)),(21,.str (b64 ((X0h ms name).1.2.1)))]) (by kernel_rfl) ?_
  refine OD.catS rfl rfl (XBw (X75 hs name)) ?_
  refine OD.runE 2 [17,18,22,24] (E':=[(17,.str (⟨#[27]⟩:ByteArray)),(18,.str (⟨#[27,93,53,50,59,99,59]⟩:ByteArray)),(22,.str ((⟨#[27,93,53,50,59,99,59]⟩:ByteArray)++(b64 ((X0h ms name).1.2.1)))),(24,.str (⟨#[7]⟩:ByteArray))]) (by kernel_rfl) ?_
  refine OD.catS rfl rfl (X90 (X75 hs name)) ?_
  refine OD.runE 2 [4,5,17,18,24] (E':=[(4,.str (((⟨#[27,93,53,50,59,99,59]⟩:ByteArray)++(b64 ((X0h ms name).1.2.1)))++(⟨#[7]⟩:ByteArray))),(5,.bool true),(17,.str (⟨#[27]⟩:ByteArray)),(18,.str (⟨#[27,93,53,50,59,99,59]⟩:ByteArray)),(24,.str (⟨#[7]⟩:ByteArray))]) (by kernel_rfl) ?_
  refine OD.nil ⟨by kernel_rfl,?_⟩
  refine OD.runE 0 [4,5] (E':=[(4,.str (((⟨#[27,93,53,50,59,99,59]⟩:ByteArray)++(b64 ((X0h ms name).1.2.1)))++(⟨#[7]⟩:ByteArray))),(5,.bool true)]) (by kernel_rfl) ?_
  refine OD.bsl (e:=1) (cs:=[.int .u8 27]) rfl (by kernel_rfl) ?_
  refine OD.runE 0 [4,5] (E':=[(4,.str (((⟨#[27,93,53,50,59,99,59]⟩:ByteArray)++(b64 ((X0h ms name).1.2.1)))++(⟨#[7]⟩:ByteArray))),(5,.bool true)]) (by kernel_rfl) ?_
  refine OD.bsl (e:=1) (cs:=[.int .u8 7]) rfl (by kernel_rfl) ?_
  refine OD.runE 0 [4,5] (E':=[(4,.str (((⟨#[27,93,53,50,59,99,59]⟩:ByteArray)++(b64 ((X0h ms name).1.2.1)))++(⟨#[7]⟩:ByteArray))),(5,.bool true)]) (by kernel_rfl) ?_
  refine OD.nil ?_
  refine CD.ret ?_
  exact X36 (by kernel_rfl) (by kernel_rfl) (r:=.tup [.str (((⟨#[27,93,53,50,59,99,59]⟩:ByteArray)++(b64 ((X0h ms name).1.2.1)))++(⟨#[7]⟩:ByteArray)),.bool true]) ((by unfold X4h;simp only [h1,cond_true,cond_false]<;>rfl))
theorem XC9 (room:Int) (nx:Nat) (ms:List X0A) (hm:ms.length≤1000000):FnD P ov 39 [.loc 0 0] [.box [.int .i64 room,.row 1 0 ms.length ms.length,.int .i64 ((nx:Nat):Int)],.row 3 ms.length (ms.flatMap X04)] (fun r L1=>r=.sl 1 ms.length ((ms.reverse.map Prod.fst).map D.str)∧L1=[.box [.int .i64 room,.row 1 0 ms.length ms.length,.int .i64 ((nx:Nat):Int)],.row 3 ms.length (ms.flatMap X04)]):=by
 refine FnD.intro (by kernel_rfl) (fn:=Tryz.f39) (by kernel_rfl) rfl (by kernel_rfl) fun M a0 g0 hg0=>?_
 refine CD.seq ?_
 refine CD.region ?_
 refine OD.runE 1 [0] (E':=[(0,.loc 0 0)]) (by kernel_rfl) ?_
 refine OD.nil ?_
 refine CD.seq ?_
 refine CD.region ?_
 refine OD.runE 1 [0,3] (E':=[(0,.loc 0 0),(3,.lit (.slice none 0 0))]) (by kernel_rfl) ?_
 refine OD.nilRow 3 1 rfl ?_
 refine OD.runE 0 [0,3] (E':=[(0,.loc 0 0),(3,.row 2 0 0 0)]) (by kernel_rfl) ?_
 refine OD.nil ?_
 refine CD.seq ?_
 refine CD.seq ?_
 refine CD.region ?_
 refine OD.runE 6 [0,3,10] (E':=[(0,.loc 0 0),(3,.row 2 0 0 0),(10,.int .i64 (X0X .i64 (((ms.length:Nat):Int) - 1)))]) (by kernel_rfl) ?_
 refine OD.is 10 rfl (wr64 (by omega) (by omega)) ?_
 refine OD.runE 1 [0,3,4] (E':=[(0,.loc 0 0),(3,.row 2 0 0 0),(4,.int .i64 (((ms.length:Nat):Int) - 1))]) (by kernel_rfl) ?_
 refine OD.nil ?_
 refine CD.block ?_
 refine CD.weak [0,3,4] 3 (E':=[(0,.loc 0 0),(3,.row 2 0 0 0),(4,.int .i64 (((ms.length:Nat):Int) - 1))]) (by kernel_rfl) (by simp [hg0]) (by kernel_rfl) ?_
 refine CD.loop (fun m σ=>∃ (k:Nat) (ns:List ByteArray),σ=⟨[(0,.loc 0 0),(3,.row 2 0 k k),(4,.int .i64 (((ms.length - k:Nat):Int) - 1))],[.box [.int .i64 room,.row 1 0 ms.length ms.length,.int .i64 ((nx:Nat):Int)],.row 3 ms.length (ms.flatMap X04),.row 1 k (ns.map D.str)]⟩∧(k≤ms.length)∧(ns.length=k)∧(ns=(ms.reverse.take k).map Prod.fst)∧m=ms.length - k) (fun m σ hI=>?_) _ ⟨0,[],(by kernel_rfl),Nat.zero_le _,rfl,rfl,rfl⟩
 obtain⟨k,ns,e,hk,hnl,hns,hm⟩:=hI
 subst e hm
 refine CD.seq ?_
 refine CD.seq ?_
 refine CD.region ?_
 refine OD.runE 2 [0,3,4,12] (E':=[(0,.loc 0 0),(3,.row 2 0 k k),(4,.int .i64 (((ms.length - k:Nat):Int) - 1)),(12,.bool (decide ((0:Int)≤(((ms.length - k:Nat):Int) - 1))))]) (by kernel_rfl) ?_
 refine OD.nil ?_
 refine CD.condP rfl (fun h1=>?_) (fun h1=>?_)
 ·
  refine CD.skip ?_
  refine CD.seq ?_
  refine CD.block ?_
  refine CD.region ?_
  refine OD.runE 6 [0,4,15,19,20] (E':=[(0,.loc 0 0),(4,.int .i64 (((ms.length - k:Nat):Int) - 1)),(15,.row 2 0 k k),(19,.row 1 0 ms.length ms.length),(20,.int .i64 (((ms.length - k:Nat):Int) - 1))]) (by kernel_rfl) ?_
  refine OD.idxE (i:=ms.length - 1 - k) (e:=3) rfl rfl (by kernel_rfl) (by omega) (by omega) ?_
  refine OD.runE 1 [0,4,15,22] (E':=[(0,.loc 0 0),(4,.int .i64 (((ms.length - k:Nat):Int) - 1)),(15,.row 2 0 k k),(22,.loc 1 ((ms.length - 1 - k)*3+0))]) (by kernel_rfl) ?_
  refine OD.ldR (d:=.str ((ms.getD (ms.length - 1 - k) e0).1)) rfl rfl (by kernel_rfl) (X23 (k:=0) (by omega) (by decide) rfl) ?_
  refine OD.runE 0 [0,4,15,23] (E':=[(0,.loc 0 0),(4,.int .i64 (((ms.length - k:Nat):Int) - 1)),(15,.row 2 0 k k),(23,.str ((ms.getD (ms.length - 1 - k) e0).1))]) (by kernel_rfl) ?_
  refine OD.bsl (e:=1) (cs:=[.str ((ms.getD (ms.length - 1 - k) e0).1)]) rfl (by kernel_rfl) ?_
  refine OD.runE 0 [0,4,15,24] (E':=[(0,.loc 0 0),(4,.int .i64 (((ms.length - k:Nat):Int) - 1)),(15,.row 2 0 k k),(24,.sl 1 1 [.str ((ms.getD (ms.length - 1 - k) e0).1)])]) (by kernel_rfl) ?_
  refine OD.appV (f:=D.str) (xs:=ns) (vs:=[(ms.getD (ms.length - 1 - k) e0).1]) rfl (by kernel_rfl) rfl rfl rfl rfl hnl (by decide) (by omega) ?_
  refine OD.runE 1 [0,3,4] (E':=[(0,.loc 0 0),(3,.row 2 0 (k+1) (k+1)),(4,.int .i64 (((ms.length - k:Nat):Int) - 1))]) (by kernel_rfl) ?_
  refine OD.nil ?_
  refine CD.region ?_
  refine OD.runE 2 [0,3,14] (E':=[(0,.loc 0 0),(3,.row 2 0 (k+1) (k+1)),(14,.int .i64 (X0X .i64 ((((ms.length - k:Nat):Int) - 1) - 1)))]) (by kernel_rfl) ?_
  refine OD.is 14 rfl (wr64 (by omega) (by omega)) ?_
  refine OD.runE 1 [0,3,4] (E':=[(0,.loc 0 0),(3,.row 2 0 (k+1) (k+1)),(4,.int .i64 ((((ms.length - k:Nat):Int) - 1) - 1))]) (by kernel_rfl) ?_
  refine OD.is 4 rfl (congrArg (D.int .i64) (show _=((ms.length - (k+1):Nat):Int) - 1 by omega)) ?_
  refine OD.runE 0 [0,3,4] (E':=[(0,.loc 0 0),(3,.row 2 0 (k+1) (k+1)),(4,.int .i64 (((ms.length - (k+1):Nat):Int) - 1))]) (by kernel_rfl) ?_
  refine OD.nil ?_
  exact⟨_,by omega,k+1,(ns++[(ms.getD (ms.length - 1 - k) e0).1]),(by kernel_rfl),by omega,by rw [List.length_append,hnl];rfl,by rw [← X3B (by omega)];exact X6M (by rw [List.length_reverse];omega) hns,rfl⟩
 ·
  refine CD.exit ?_
  refine CD.seq ?_
  refine CD.region ?_
  refine OD.runE 2 [2] (E':=[(2,.row 2 0 k k)]) (by kernel_rfl) ?_
  refine OD.nil ?_
  refine CD.freeze 2 rfl rfl (Nat.le_refl _) ?_
  refine CD.ret ?_
  first | refine X06 ?_ | refine X07 ?_ | (dsimp only;first | refine X06 ?_ | refine X07 ?_)
  refine X26 2 (r:=.sl 1 k (ns.map D.str)) (L':=[.box [.int .i64 room,.row 1 0 ms.length ms.length,.int .i64 ((nx:Nat):Int)],.row 3 ms.length (ms.flatMap X04)]) (by kernel_rfl) ?_ ?_ (by kernel_rfl) (by kernel_rfl) ?_
  · exact Nat.le_of_ble_eq_true (by kernel_rfl)
  · exact Nat.le_of_ble_eq_true (by kernel_rfl)
  · exact(by(have hkl:k=ms.length:=(by omega));subst hkl;rw [hns,List.take_of_length_le (by rw [List.length_reverse];exact Nat.le_refl _)];exact⟨rfl,rfl⟩)
theorem XFv (room:Int):FnD P ov 10 [.int .i64 room] [] (fun r L1=>r=.loc 0 0∧L1=[.box [.int .i64 (max 1 (min room 50)),.row 1 0 0 0,.int .i64 0],.row 3 0 []]):=by
 refine FnD.intro (by kernel_rfl) (fn:=Tryz.f10) (by kernel_rfl) rfl (by kernel_rfl) fun M a0 g0 hg0=>?_
 refine CD.seq ?_
 refine CD.region ?_
 refine OD.runE 1 [0] (E':=[(0,.int .i64 room)]) (by kernel_rfl) ?_
 refine OD.nil ?_
 refine CD.seq ?_
 refine CD.region ?_
 refine OD.run 5 [7] (E':=[(7,.loc 0 0)]) (L':=[.box [.int .i64 (max (1:Int) (min (room:Int) 50)),.lit (.slice none 0 0),.int .i64 0]]) (by kernel_rfl) ?_
 refine OD.nilRowB 0 1 3 rfl rfl ?_
 refine OD.run 1 [2] (E':=[(2,.loc 0 0)]) (L':=[.box [.int .i64 (max (1:Int) (min (room:Int) 50)),.row 1 0 0 0,.int .i64 0],.row 3 0 (([]:List X0A).flatMap X04)]) (by kernel_rfl) ?_
 refine OD.nil ?_
 refine CD.ret ?_
 first | refine X06 ?_ | refine X07 ?_ | (dsimp only;first | refine X06 ?_ | refine X07 ?_)
 refine X26 2 (r:=.loc 0 0) (L':=[.box [.int .i64 (max (1:Int) (min (room:Int) 50)),.row 1 0 0 0,.int .i64 0],.row 3 0 (([]:List X0A).flatMap X04)]) (by kernel_rfl) ?_ ?_ (by kernel_rfl) (by kernel_rfl) ?_
 · exact Nat.le_of_ble_eq_true (by kernel_rfl)
 · exact Nat.le_of_ble_eq_true (by kernel_rfl)
 · exact⟨rfl,rfl⟩
end
end Go.Proofs.YtmmmjbipgngamaaGreatDoor

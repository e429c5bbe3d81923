/-
  What is proved here: a pattern that lies in a world, brought into a plain heap (part NX). a call whose first argument is a pattern that lies in a world: what the plain heap answers, the worl rows of steps that lie in a world, brought into a plain heap; a law over them. No conditions but those that the theorems state.
-/
import Derived.Test.YtmmmjbipgngamaaGreatDoorRJ
import Derived.Test.YtmmmjbipgngamaaGreatDoorNA
import Derived.Test.YtmmmjbipgngamaaGreatDoorVO
import Derived.Test.YtmmmjbipgngamaaGreatDoorRH
set_option linter.unusedVariables false
set_option linter.unusedSimpArgs false
namespace Go.Vai
open Go.Nfa
noncomputable section
abbrev SlW:=Option (Addr×Nat)
inductive WN where
 | mk (k:Int) (sa:SlW) (set:List (Int×Int)) (no:Bool) (ka:SlW) (kids:List WN) (mn mx:Int)
def slV (s:SlW) (n:Nat):Value:=match s with
 | none=>.slice none 0 0
 | some (a,c)=>.slice (some a) n c
def rgV (r:Int×Int):List Value:=[.int .i32 r.1,.int .i32 r.2]
mutual
def WN.nd:WN→Nd
 | .mk k sa set no ka kids mn mx=>.mk k set no (WN.nds kids) mn mx
def WN.nds:List WN→List Nd
 | []=>[]
 | n::ns=>WN.nd n::WN.nds ns
end
def WN.cells:WN→List Value
 | .mk k sa set no ka kids mn mx=>[.int .i64 k,slV sa set.length,.bool no,slV ka kids.length,.int .i64 mn,.int .i64 mx]
def XEK (W:World) (s:SlW) (e n:Nat) (cs:List Value):Prop:=cs.length=n*e∧match s with
 | none=>n=0
 | some (a,c)=>n≤c∧(c=0∨(¬ TG a.block∧a.spot=none∧(∀ j,j<c*e→(∃ v,W.cell? ⟨a.block,a.off+j,none⟩=some v)∧W.frozen? ⟨a.block,a.off+j,none⟩=false)∧∀ (j:Nat) v,cs[j]?=some v→W.cell? ⟨a.block,a.off+j,none⟩=some v))
mutual
def WN.ok (W:World):WN→Prop
 | .mk k sa set no ka kids mn mx=>XEK W sa 2 set.length (set.flatMap rgV)∧XEK W ka 6 kids.length (kids.flatMap WN.cells)∧WN.oks W kids
def WN.oks (W:World):List WN→Prop
 | []=>True
 | n::ns=>WN.ok W n∧WN.oks W ns
end
structure BK where
 l:List Value
 e:Nat
 img:Option (Nat×Nat×Nat)
def XEp (s:SlW) (e:Nat) (l:List Value):BK:=⟨l,e,match s with
 | none=>none
 | some (a,c)=>if c=0 then none else some (a.block,a.off,a.off+c*e)⟩
def slB (s:SlW) (n b:Nat):Value:=match s with
 | none=>.slice none 0 0
 | some _=>.slice (some ⟨b,0,none⟩) n n
def Has (a:AH) (T:Nat) (bs:List BK):Prop:=∀ (i:Nat) x,bs[i]?=some x→a.blk i=some ⟨x.l,T,false,x.e⟩
theorem XGQ {a:AH} {T:Nat} {bs:List BK} (H:Has a T bs) (hT:T<a.next) {i e n:Nat} {x:BK} {cs:List D} {s:SlW} (hx:bs[i]?=some x) (he:x.e=e) (hn:cs.length=n*e) (hs:s=none→n=0) (h:F2 (CR (fun _=>False) a) cs x.l):CR (fun _=>False) a (.sl e n cs) (slB s n i):=by
 cases s with
 | none =>
  have:=hs rfl
  subst this
  have:cs=[]:=List.length_eq_zero_iff.1 (by omega)
  subst this
  exact .nil
 | some s =>
  refine X4U.cr ⟨_,H i x hx,fun f=>f,hT,he,hn,?_,fun j d hd=>?_⟩ (Nat.le_refl _)
  · rw [Nat.zero_add,← hn,h.length];exact Nat.le_refl _
  ·
   obtain⟨v,q1,q2⟩:=h.get j d hd
   exact⟨v,by rw [Nat.zero_add];exact q1,q2⟩
theorem XEK.nil {W:World} {s:SlW} {e n:Nat} {cs:List Value} (h:XEK W s e n cs):s=none→n=0:=by
 rintro rfl;exact h.2
def XB4 (W:World) (T:Nat) (x:BK):Option Img:=match x.img with
 | none=>none
 | some (g,o,m)=>some ⟨g,o,m,x.e,match W.heap[g]? with
  | some ob=>some (ob,T)
  | none=>none⟩
def HasR (W:World) (T:Nat) (ρ:Rho) (bs:List BK):Prop:=∀ (i:Nat) x,bs[i]?=some x→ρ i=XB4 W T x
theorem XGR {W:World} {T:Nat} {ρ:Rho} {bs:List BK} (H:HasR W T ρ bs) {s:SlW} {e n i:Nat} {cs l:List Value} (o:XEK W s e n cs) (hx:bs[i]?=some (XEp s e l)):X13 ρ (slB s n i) (slV s n):=by
 have hr:=H i _ hx
 cases s with
 | none=>exact .plain rfl
 | some p =>
  obtain⟨a,c⟩:=p
  obtain⟨o1,o2,o3⟩:=o
  rcases o3 with rfl | ⟨_,q1,q2,q3⟩
  ·
   have:n=0:=by omega
   subst this
   exact .sliceE
  ·
   obtain⟨g,off,sp⟩:=a
   simp only at q1
   subst q1
   by_cases hc:c=0
   ·
    subst hc
    have:n=0:=by omega
    subst this
    exact .sliceE
   ·
    have hi:ρ i=some ⟨g,off,off+c*e,e,match W.heap[g]? with | some ob=>some (ob,T) | none=>none⟩:=by
     rw [hr];unfold XB4 XEp;simp only [if_neg hc]
    exact X13.slice (i:=0) hi (Nat.le_refl _) o2 (by simp)
def BOk (W:World) (ρ:Rho) (x:BK):Prop:=∀ g o m,x.img=some (g,o,m)→¬ TG g∧(∃ ob,W.heap[g]?=some ob∧X1l ob=false) ∧
 (∀ j,o≤j→j<m→(∃ v,W.cell? ⟨g,j,none⟩=some v)∧W.frozen? ⟨g,j,none⟩=false)∧o+x.l.length≤m∧∀ (i:Nat) v,x.l[i]?=some v→∃ v',W.cell? ⟨g,o+i,none⟩=some v'∧X13 ρ v v'
theorem bkOk {W:World} {ρ:Rho} {s:SlW} {e n:Nat} {cs l:List Value} (he:0<e) (o:XEK W s e n cs) (h:F2 (X13 ρ) l cs):BOk W ρ (XEp s e l):=by
 intro g off m hi
 cases s with
 | none=>cases hi
 | some p =>
  obtain⟨a,c⟩:=p
  unfold XEp at hi ⊢
  simp only at hi ⊢
  by_cases hc:c=0
  · rw [if_pos hc]at hi;cases hi
  ·
   rw [if_neg hc]at hi
   simp only [Option.some.injEq,Prod.mk.injEq]at hi
   obtain⟨rfl,rfl,rfl⟩:=hi
   obtain⟨o1,o2,o3⟩:=o
   rcases o3 with o3 | ⟨q0,q1,q2,q3⟩
   · exact absurd o3 hc
   have hpos:0<c*e:=Nat.mul_pos (by omega) he
   refine⟨q0,?_,fun j h1 h2=>?_,?_,fun i v hv=>?_⟩
   ·
    obtain⟨⟨v,hv⟩,_⟩:=q2 0 hpos
    unfold World.cell? at hv
    split at hv
    ·
     rename_i c0 t0 f0 hh
     exact⟨_,hh,rfl⟩
    · cases hv
   ·
    have:=q2 (j - a.off) (by omega)
    rw [show a.off+(j - a.off)=j by omega]at this
    exact this
   ·
    rw [h.length,o1]
    exact Nat.add_le_add_left (Nat.mul_le_mul_right e o2) _
   ·
    obtain⟨v',r1,r2⟩:=h.get i v hv
    exact⟨v',q3 i v' r1,r2⟩
end
end Go.Vai
namespace Go.Vai
open Go.Nfa Go.RowKit
noncomputable section
def trB:Nat→Tr Blk→List Blk→Tr Blk
 | _,t,[]=>t
 | i,t,v::vs=>trB (i+1) (t.put i v) vs
theorem XEq:∀ (vs:List Blk) (i:Nat) (t:Tr Blk) (j:Nat),(trB i t vs).get j=if i≤j∧j<i+vs.length then vs[j - i]? else t.get j:=by
 intro vs
 induction vs with
 | nil =>
  intro i t j
  have:¬ (i≤j∧j<i+([]:List Blk).length):=by simp
  rw [if_neg this];rfl
 | cons v vs ih =>
  intro i t j
  show(trB (i+1) (t.put i v) vs).get j=_
  rw [ih]
  by_cases h:j=i
  ·
   subst h
   rw [if_neg (by omega),if_pos (by simp),Tr.get_put_same (Nat.zero_le _),Nat.sub_self];rfl
  ·
   by_cases h2:i+1≤j∧j<i+1+vs.length
   ·
    rw [if_pos h2,if_pos (by simp;omega)]
    obtain⟨m,rfl⟩:∃ m,j=i+1+m:=⟨j - (i+1),by omega⟩
    rw [show i+1+m - (i+1)=m by omega,show i+1+m - i=m+1 by omega];rfl
   · rw [if_neg h2,Tr.get_put_other h,if_neg (by simp;omega)]
def XB5 (T:Nat) (x:BK):Blk:=⟨X2z 0 .leaf x.l,x.l.length,x.e,T,false⟩
def hOf (bs:List BK):Heap:=⟨trB 0 .leaf (bs.map (XB5 bs.length)++[⟨.leaf,0,0,bs.length,false⟩]),bs.length+1,(Tr.leaf).put bs.length ⟨bs.length,0⟩,.leaf⟩
def aOf (bs:List BK):AH:=⟨fun b=>match bs[b]? with
 | some x=>some ⟨x.l,bs.length,false,x.e⟩
 | none=>if b=bs.length then some ⟨[],bs.length,true,0⟩else none,fun _=>none,bs.length+1⟩
def rOf (W:World) (bs:List BK):Rho:=fun b=>match bs[b]? with
 | some x=>XB4 W bs.length x
 | none=>none
theorem X3L {α:Type} (i:Nat):(Tr.leaf:Tr α).get i=none:=by unfold Tr.get;rfl
theorem X52 {bs:List BK} {i:Nat}:(hOf bs).blks.get i=match bs[i]? with
  | some x=>some (XB5 bs.length x)
  | none=>if i=bs.length then some ⟨.leaf,0,0,bs.length,false⟩else none:=by
 unfold hOf
 simp only
 rw [XEq]
 by_cases h:i<bs.length
 · rw [if_pos (by simp;omega),Nat.sub_zero,List.getElem?_append_left (by simpa using h),List.getElem?_map,List.getElem?_eq_getElem h];rfl
 ·
  have hbn:bs[i]?=none:=List.getElem?_eq_none (by omega)
  rw [hbn]
  simp only
  by_cases h2:i=bs.length
  ·
   subst h2
   rw [if_pos (by simp),if_pos rfl,Nat.sub_zero,List.getElem?_append_right (by simp)];simp
  · rw [if_neg (by simp;omega),if_neg h2,X3L]
theorem X53 {bs:List BK} {i:Nat}:(hOf bs).cls.get i=if i=bs.length then some ⟨bs.length,0⟩else none:=by
 unfold hOf
 simp only
 by_cases h:i=bs.length
 · subst h;rw [if_pos rfl,Tr.get_put_same (Nat.zero_le _)]
 · rw [if_neg h,Tr.get_put_other h,X3L]
theorem XEL (bs:List BK):Ab (hOf bs) (aOf bs):=by
 refine⟨fun b hb=>⟨?_,?_⟩,rfl,fun b B e=>?_,fun b x e=>by cases e⟩
 ·
  have hb:bs.length+1≤b:=hb
  rw [X52,List.getElem?_eq_none (by omega)];simp only;rw [if_neg (by omega)]
 ·
  have hb:bs.length+1≤b:=hb
  rw [X53,if_neg (by omega)]
 ·
  have e:(match bs[b]? with
   | some x=>some (⟨x.l,bs.length,false,x.e⟩:AB)
   | none=>if b=bs.length then some ⟨[],bs.length,true,0⟩else none)=some B:=e
  have hn:(hOf bs).next=bs.length+1:=rfl
  cases hx:bs[b]? with
  | some x =>
   rw [hx]at e
   simp only [Option.some.injEq]at e
   subst e
   have hb:=(List.getElem?_eq_some_iff.1 hx).1
   refine⟨by rw [hn];omega,by rw [hn];simp,XB5 bs.length x,⟨bs.length,0⟩,by rw [X52,hx],by rw [X53,if_pos rfl],rfl,rfl,rfl,rfl,Nat.zero_le _,(fun h=>by cases h),by rw [hn];simp,fun i hi=>?_⟩
   show(X2z 0 .leaf x.l).get i=x.l[i]?
   rw [X2I _ _ _ _ (Nat.zero_le _),if_pos (by simpa using hi)];simp
  | none =>
   rw [hx]at e
   simp only at e
   split at e
   ·
    rename_i hb
    cases e
    subst hb
    exact⟨by rw [hn];omega,by rw [hn];simp,⟨.leaf,0,0,bs.length,false⟩,⟨bs.length,0⟩,by rw [X52,hx];simp,by rw [X53,if_pos rfl],rfl,rfl,rfl,rfl,Nat.zero_le _,(fun _=>rfl),by rw [hn];simp,fun i hi=>by cases hi⟩
   · cases e
theorem XEr {W:World} {bs:List BK} (hw:TW W) (hb:∀ x∈bs,BOk W (rOf W bs) x):X0f (rOf W bs) (hOf bs) W:=by
 have inv:∀ b I,rOf W bs b=some I→∃ x g o m,bs[b]?=some x∧b<bs.length∧x.img=some (g,o,m)∧I=⟨g,o,m,x.e,match W.heap[g]? with | some ob=>some (ob,bs.length) | none=>none⟩:=by
  intro b I e
  unfold rOf at e
  split at e
  ·
   rename_i x hx
   unfold XB4 at e
   split at e
   · cases e
   ·
    rename_i g o m hi
    cases e
    exact⟨x,g,o,m,hx,(List.getElem?_eq_some_iff.1 hx).1,hi,rfl⟩
  · cases e
 have blk:∀ b x,bs[b]?=some x→(hOf bs).blks.get b=some (XB5 bs.length x):=fun b x hx=>by rw [X52,hx]
 have hn:(hOf bs).next=bs.length+1:=rfl
 refine⟨⟨hw,fun b I e=>by obtain⟨x,g,o,m,hx,hlt,hi,rfl⟩:=inv b I e;exact(hb x (List.mem_of_getElem? hx) g o m hi).1⟩,fun b I e=>?_,fun b I B e eB=>?_,fun b I B C e eB eC hm i v hi hv=>?_,fun b₁ b₂ I₁ I₂ B₁ B₂ e1 e2 _ h1 h2=>?_,fun b I B C J D e eB eC hm eT _ _=>?_,fun g B e er=>?_,fun b I L e eL=>?_,fun b L eL=>?_,fun b b' I I' L L' _ _ eL=>?_,fun b I L e eL=>?_,fun b I o T e ez=>?_⟩
 ·
  obtain⟨x,g,o,m,hx,hlt,hi,rfl⟩:=inv b I e
  obtain⟨_,_,_,h3,_⟩:=hb x (List.mem_of_getElem? hx) g o m hi
  exact⟨_,⟨bs.length,0⟩,blk b x hx,by rw [X53];exact if_pos rfl,by rw [hn];omega,rfl,by rw [hn];exact Nat.lt_succ_self _,Nat.le_of_lt hlt,by rw [hn];exact Nat.lt_succ_self _,h3⟩
 ·
  obtain⟨x,g,o,m,hx,hlt,hi,rfl⟩:=inv b I e
  obtain⟨_,⟨ob,h1,_⟩,h2,_,_⟩:=hb x (List.mem_of_getElem? hx) g o m hi
  exact⟨(Array.getElem?_eq_some_iff.1 h1).1,fun j a b=>(h2 j a b).1,fun _ j a b=>(h2 j a b).2⟩
 ·
  obtain⟨x,g,o,m,hx,hlt,hi',rfl⟩:=inv b I e
  obtain⟨_,_,_,_,h4⟩:=hb x (List.mem_of_getElem? hx) g o m hi'
  rw [blk b x hx]at eB;cases eB
  have hv:(X2z 0 .leaf x.l).get i=some v:=hv
  rw [X2I _ _ _ _ (Nat.zero_le _)]at hv
  split at hv
  · exact h4 i v (by simpa using hv)
  · cases hv
 ·
  obtain⟨x,g,o,m,hx,hlt,hi,rfl⟩:=inv b₁ I₁ e1
  obtain⟨y,g',o',m',hy,_,_,rfl⟩:=inv b₂ I₂ e2
  rw [blk b₁ x hx]at h1;cases h1
  rw [blk b₂ y hy]at h2;cases h2
  rfl
 ·
  obtain⟨x,g,o,m,hx,hlt,hi,rfl⟩:=inv b I e
  rw [blk b x hx]at eB;cases eB
  rw [X53]at eC
  have:(XB5 bs.length x).cls=bs.length:=rfl
  rw [this,if_pos rfl]at eC
  cases eC
  obtain⟨_,_,_,_,_,h,_⟩:=inv _ J eT
  exact absurd h (Nat.lt_irrefl _)
 ·
  rw [X52]at e
  split at e
  · cases e;cases er
  ·
   split at e
   · cases e;cases er
   · cases e
 ·
  have:(hOf bs).objs.get b=none:=X3L b
  rw [this]at eL;cases eL
 ·
  have:(hOf bs).objs.get b=none:=X3L b
  rw [this]at eL;cases eL
 ·
  have:(hOf bs).objs.get b=none:=X3L b
  rw [this]at eL;cases eL
 ·
  have:(hOf bs).objs.get b=none:=X3L b
  rw [this]at eL;cases eL
 ·
  obtain⟨x,g,o',m,hx,hlt,hi,rfl⟩:=inv b I e
  obtain⟨_,⟨ob,h1,h2⟩,_⟩:=hb x (List.mem_of_getElem? hx) g o' m hi
  simp only [h1,Option.some.injEq,Prod.mk.injEq]at ez
  obtain⟨rfl,rfl⟩:=ez
  refine⟨Nat.lt_succ_self _,?_,h2,fun _ _ _ _ _=>h1⟩
  unfold rOf
  rw [List.getElem?_eq_none (Nat.le_refl _)]
theorem XB6 (bs:List BK):Has (aOf bs) bs.length bs:=fun i x e=>by
 show(match bs[i]? with
  | some x=>some (⟨x.l,bs.length,false,x.e⟩:AB)
  | none=>if i=bs.length then some ⟨[],bs.length,true,0⟩else none)=_
 rw [e]
theorem XCw (W:World) (bs:List BK):HasR W bs.length (rOf W bs) bs:=fun i x e=>by unfold rOf;rw [e]
theorem XGS (bs:List BK):(aOf bs).ok:=(XEL bs).ok
end
end Go.Vai
namespace Go.Vai
open Go.Nfa Go.RowKit
noncomputable section
theorem XAJ {P:Program} (hf:P.follows .mixedOrders=true) {ov:Ov} (hov:XAq P ov) {f:FuncId} {W:World} (hw:TW W) {bs:List BK} (hbok:∀ x∈bs,BOk W (rOf W bs) x) {ds:List D} {vs ws:List Value} (hd:F2 (D1 (MM (fun _=>False) []) [] (aOf bs)) ds vs) (ra:F2 (X0N (rOf W bs)) vs ws)
  (h:X2G P ov f ds (.bool true)):Calls P f ws.toArray W fun e w'=>e=.returned (.bool true)∧Below W.heap.size W w':=by
 have HR:=XEr hw hbok
 have F:=h (fun _=>False) [] (aOf bs) vs (XGS bs) (fun _ f=>f.elim) rfl .nil (fun k hk=>by cases hk) (fun i x o e _=>by cases e) hd
 obtain⟨v,h',a',⟨K,e⟩,A',q⟩:=F (hOf bs) (XEL bs)
 obtain⟨r,L',g',q1,q2,q3,q4,q5,q6,q7,q8,q9,q10,q11,q12⟩:=q
 subst q11
 cases q1
 have e:=e K (Nat.le_refl _)
 refine((XCd hf hov K).f f _ _ (.bool true) h' e _ W _ HR (by simpa using ra)).mono ?_
 rintro e' w' ⟨v',ρ',rfl,rv,H',gr,fr⟩
 have:=rv.eq_of_plain rfl
 subst this
 refine⟨rfl,fr.os,fr.tape,fr.output,fr.size,fun k hk=>?_⟩
 by_cases hex:∃ b I,rOf W bs b=some I∧I.g=k
 ·
  obtain⟨b,I,eb,rfl⟩:=hex
  have hz:∃ o,W.heap[I.g]?=some o∧I.z=some (o,bs.length):=by
   unfold rOf at eb
   split at eb
   ·
    rename_i x hx
    unfold XB4 at eb
    split at eb
    · cases eb
    ·
     rename_i g o m hi
     cases eb
     obtain⟨_,⟨ob,h1,h2⟩,_⟩:=hbok x (List.mem_of_getElem? hx) g o m hi
     exact⟨ob,h1,by simp only [h1]⟩
   · cases eb
  obtain⟨o,ho1,ho2⟩:=hz
  obtain⟨_,_,_,s4⟩:=H'.st b I o bs.length (gr.ext b I eb) ho2
  have hb:∃ x,bs[b]?=some x:=by
   unfold rOf at eb
   split at eb
   · rename_i x hx;exact⟨x,hx⟩
   · cases eb
  obtain⟨x,hx⟩:=hb
  have k1:=q7.blk b _ (XB6 bs b x hx) (by simp [Gh.cls])
  have k2:=q7.blk bs.length ⟨[],bs.length,true,0⟩ (by
   show(match bs[bs.length]? with
    | some x=>some (⟨x.l,bs.length,false,x.e⟩:AB)
    | none=>if bs.length=bs.length then some ⟨[],bs.length,true,0⟩else none)=_
   rw [List.getElem?_eq_none (Nat.le_refl _)];simp) (by simp [Gh.cls])
  obtain⟨D1,C1,d1,d2,d3,_⟩:=(A'.blk _ _ k1).ex
  obtain⟨D2,C2,e1,e2,e3,_,_,_,_,e8,_⟩:=(A'.blk _ _ k2).ex
  have:C1=C2:=by
   have d2':h'.cls.get bs.length=some C1:=d2
   have e2':h'.cls.get bs.length=some C2:=e2
   rw [d2']at e2';cases e2';rfl
  subst this
  rw [s4 D1 C1 d1 (by rw [d3];exact d2) (e8 rfl),ho1]
 · exact fr.keep k hk fun b I eb eg=>hex ⟨b,I,eb,eg⟩
abbrev OpW:=Int×ByteArray×ByteArray
def opV (o:OpW):List Value:=[.int .i64 o.1,.string o.2.1,.string o.2.2]
def X18 (o:OpW):List D:=[.int .i64 o.1,.str o.2.1,.str o.2.2]
def o0:OpW:=(0,ByteArray.empty,ByteArray.empty)
theorem X9P (o:OpW):(X18 o).length=3:=rfl
def X7S (oa:SlW) (os:List OpW):List BK:=[XEp oa 3 (os.flatMap opV)]
abbrev XAK (W:World) (oa:SlW) (os:List OpW):Prop:=XEK W oa 3 os.length (os.flatMap opV)
theorem XGT {a:AH}:∀ r:List OpW,F2 (CR (fun _=>False) a) (r.flatMap X18) (r.flatMap opV)
 | []=>.nil
 | c::r=>.cons .int (.cons .str (.cons .str (XGT r)))
theorem XEM {ρ:Rho}:∀ r:List OpW,F2 (X13 ρ) (r.flatMap opV) (r.flatMap opV)
 | []=>.nil
 | c::r=>.cons (.plain rfl) (.cons (.plain rfl) (.cons (.plain rfl) (XEM r)))
theorem XEs (r:List OpW):(r.flatMap X18).length=r.length*3:=by
 induction r with
 | nil=>rfl
 | cons c r ih=>rw [List.flatMap_cons,List.length_append,ih,X9P,List.length_cons];omega
theorem X9Q {oa:SlW} {os:List OpW}:(X7S oa os)[0]?=some (XEp oa 3 (os.flatMap opV)):=rfl
theorem XGU {W:World} {oa:SlW} {os:List OpW} (ok:XAK W oa os):CR (fun _=>False) (aOf (X7S oa os)) (.sl 3 os.length (os.flatMap X18)) (slB oa os.length 0) :=
 XGQ (XB6 (X7S oa os)) (Nat.lt_succ_self _) (x:=XEp oa 3 (os.flatMap opV)) X9Q rfl (XEs os) ok.nil (XGT os)
theorem XEt {W:World} {oa:SlW} {os:List OpW} (ok:XAK W oa os):X13 (rOf W (X7S oa os)) (slB oa os.length 0) (slV oa os.length):=XGR (XCw W _) ok X9Q
theorem XEu {W:World} {oa:SlW} {os:List OpW} (ok:XAK W oa os):∀ x∈X7S oa os,BOk W (rOf W (X7S oa os)) x:=by
 intro x hx
 unfold X7S at hx
 rw [List.mem_singleton]at hx
 subst hx
 exact bkOk (by omega) ok (XEM os)
theorem XGV {l:List OpW} {i:Nat} (h:i<l.length):l[i]?=some (l.getD i o0):=getD_some h
theorem XEv {l:List OpW} {i:Nat} (h:i<l.length):((l.flatMap X18).drop (i*3)).take 3=[.int .i64 (l.getD i o0).1,.str (l.getD i o0).2.1,.str (l.getD i o0).2.2]:=X7e (e:=3) X9P (XGV h)
end
end Go.Vai

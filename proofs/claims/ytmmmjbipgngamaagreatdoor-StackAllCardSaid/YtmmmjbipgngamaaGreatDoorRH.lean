/-
  What is proved here: the rule for calls that are given objects: the called one sees a table of its own (part RH). No conditions.
-/
import Derived.Test.YtmmmjbipgngamaaGreatDoorRG
set_option linter.unusedVariables false
set_option linter.unusedSimpArgs false
namespace Go.Vai
noncomputable section
variable {P:Program} {ov:Ov} {C:Cx0}
theorem Gh.nodup_of:∀ {g:Gh},(∀ (i j b b' k:Nat),g[i]?=some (some (b,k))→g[j]?=some (some (b',k))→i=j)→g.cls.Nodup:=by
 intro g
 induction g with
 | nil=>intro _;exact .nil
 | cons x g ih =>
  intro h
  rw [Gh.cls_cons]
  have ih':(Gh.cls g).Nodup:=ih fun i j b b' k h1 h2=>by
   have:=h (i+1) (j+1) b b' k (by simpa using h1) (by simpa using h2)
   omega
  cases x with
  | none=>exact ih'
  | some y =>
   refine List.nodup_cons.2 ⟨fun hk=>?_,ih'⟩
   obtain⟨i,b,e⟩:=Gh.mem_cls.1 hk
   have:=h 0 (i+1) y.1 b y.2 (by simp) (by simpa using e)
   omega
def XGI (i:Nat):List Nat→Nat→Option Nat
 | [],_=>none
 | x::xs,k=>bif Nat.beq x i then some k else XGI i xs (k+1)
def pos (sel:List Nat) (i:Nat):Option Nat:=XGI i sel 0
theorem XBe:∀ {sel:List Nat} {i k p:Nat},XGI i sel k=some p→k≤p∧sel[p - k]?=some i:=by
 intro sel
 induction sel with
 | nil=>intro i k p h;cases h
 | cons x xs ih =>
  intro i k p h
  simp only [XGI]at h
  by_cases e:x=i
  · subst e;rw [Nat.beq_refl]at h;cases h;simp
  ·
   rw [X38 e]at h
   obtain⟨q1,q2⟩:=ih h
   refine⟨by omega,?_⟩
   rw [show p - k=(p - (k+1))+1 by omega,List.getElem?_cons_succ];exact q2
theorem X3Q {sel:List Nat} {i p:Nat} (h:pos sel i=some p):sel[p]?=some i:=(XBe h).2
theorem XBf:∀ {sel:List Nat} {i k:Nat},XGI i sel k=none→i ∉ sel:=by
 intro sel
 induction sel with
 | nil=>intro i k _;simp
 | cons x xs ih =>
  intro i k h
  simp only [XGI]at h
  by_cases e:x=i
  · subst e;rw [Nat.beq_refl]at h;cases h
  ·
   rw [X38 e]at h
   simp only [List.mem_cons,not_or]
   exact⟨fun q=>e q.symm,ih h⟩
theorem XDQ {sel:List Nat} {i:Nat} (h:pos sel i=none):i ∉ sel:=XBf h
theorem XET {sel:List Nat} (nd:sel.Nodup) {i p:Nat} (h:sel[p]?=some i):pos sel i=some p:=by
 cases e:pos sel i with
 | none=>exact absurd (List.mem_iff_getElem?.2 ⟨p,h⟩) (XDQ e)
 | some p' =>
  have h':=X3Q e
  have hp:p<sel.length:=(List.getElem?_eq_some_iff.1 h).1
  have:=(List.getElem?_inj hp nd).1 (h.trans h'.symm)
  rw [this]
def XGJ (sel:List Nat):D→Option D
 | .loc i o=>match pos sel i with
  | some p=>some (.loc p o)
  | none=>none
 | .row i o n c=>match pos sel i with
  | some p=>some (.row p o n c)
  | none=>none
 | d=>some d
def XEJ (sel:List Nat):List D→Option (List D)
 | []=>some []
 | d::ds=>match XGJ sel d,XEJ sel ds with
  | some x,some xs=>some (x::xs)
  | _,_=>none
def XGh (sel:List Nat):D→Option D
 | .agg ds=>match XEJ sel ds with
  | some xs=>some (.agg xs)
  | none=>none
 | .clo f ds=>match XEJ sel ds with
  | some xs=>some (.clo f xs)
  | none=>none
 | d=>XGJ sel d
def XFY (sel:List Nat):List D→Option (List D)
 | []=>some []
 | d::ds=>match XGh sel d,XFY sel ds with
  | some x,some xs=>some (x::xs)
  | _,_=>none
def XFZ (sel:List Nat):Ob→Option Ob
 | .box cs=>match XEJ sel cs with
  | some xs=>some (.box xs)
  | none=>none
 | o=>some o
def XFa (sel:List Nat) (L:List Ob):List Nat→Option (List Ob)
 | []=>some []
 | i::is=>match L[i]? with
  | some o=>match XFZ sel o,XFa sel L is with
   | some x,some xs=>some (x::xs)
   | _,_=>none
  | none=>none
def bk (sel:List Nat) (n p:Nat):Nat:=match sel[p]? with
 | some i=>i
 | none=>n+(p - sel.length)
def XAU (sel:List Nat) (n:Nat):D→D
 | .loc p o=>.loc (bk sel n p) o
 | .row p o m c=>.row (bk sel n p) o m c
 | d=>d
def XBg (sel:List Nat) (n:Nat):D→D
 | .agg ds=>.agg (ds.map (XAU sel n))
 | .clo f ds=>.clo f (ds.map (XAU sel n))
 | d=>XAU sel n d
def X8n (sel:List Nat) (n:Nat):D→D
 | .tup ds=>.tup (ds.map (XBg sel n))
 | d=>XBg sel n d
def X6I (sel:List Nat) (n:Nat):Ob→Ob
 | .box cs=>.box (cs.map (XAU sel n))
 | o=>o
def cl1 (sel:List Nat) (L':List Ob):D→D
 | .loc i o=>match pos sel i with
  | some p=>match L'[p]? with
   | some (.box _)=>.loc i o
   | _=>.cmp
  | none=>.loc i o
 | .row i o n c=>match pos sel i with
  | some _=>.cmp
  | none=>.row i o n c
 | d=>d
def cl2 (sel:List Nat) (L':List Ob):D→D
 | .agg ds=>.agg (ds.map (cl1 sel L'))
 | .clo f ds=>.clo f (ds.map (cl1 sel L'))
 | d=>cl1 sel L' d
def clD (sel:List Nat) (L':List Ob):D→D
 | .tup ds=>.tup (ds.map (cl2 sel L'))
 | d=>cl2 sel L' d
def clE (sel:List Nat) (L':List Ob) (E:X0m):X0m:=E.map fun p=>(p.1,clD sel L' p.2)
def clOb (sel:List Nat) (L':List Ob):Ob→Ob
 | .box cs=>.box (cs.map (cl1 sel L'))
 | o=>o
def XDR {α:Type} (f:Nat→α→α):Nat→List α→List α
 | _,[]=>[]
 | k,x::xs=>f k x::XDR f (k+1) xs
theorem X6y {α:Type} {f:Nat→α→α}:∀ {l:List α} {k i:Nat},(XDR f k l)[i]?=(l[i]?).map (f (k+i)):=by
 intro l
 induction l with
 | nil=>intro k i;simp [XDR]
 | cons x xs ih =>
  intro k i
  cases i with
  | zero=>simp [XDR]
  | succ i=>rw [XDR,List.getElem?_cons_succ,ih,List.getElem?_cons_succ,show k+1+i=k+(i+1)by omega]
theorem X21 {α:Type} {f:Nat→α→α}:∀ {l:List α} {k:Nat},(XDR f k l).length=l.length:=by
 intro l
 induction l with
 | nil=>intro k;rfl
 | cons x xs ih=>intro k;simp [XDR,ih]
def XDS (sel:List Nat) (L':List Ob) (L:List Ob):List Ob :=
 XDR (fun i o=>match pos sel i with
  | some p=>match L'[p]? with
   | some o'=>X6I sel L.length o'
   | none=>.dead
  | none=>clOb sel L' o) 0 L++(L'.drop sel.length).map (X6I sel L.length)
def X8V (sel:List Nat) (g':Gh) (g:Gh):Gh :=
 XDR (fun i x=>match pos sel i with
  | some p=>(g'[p]?).getD none
  | none=>x) 0 g++g'.drop sel.length
def X4t (sel:List Nat) (g:Gh):Gh:=sel.map fun i=>(g[i]?).getD none
def X5G:List Nat→Bool
 | []=>true
 | x::xs=>!xs.any (Nat.beq x) && X5G xs
theorem XBh:∀ {l:List Nat},X5G l=true→l.Nodup:=by
 intro l
 induction l with
 | nil=>intro _;exact .nil
 | cons x xs ih =>
  intro h
  simp only [X5G,Bool.and_eq_true,Bool.not_eq_true']at h
  refine List.nodup_cons.2 ⟨fun hx=>?_,ih h.2⟩
  have:xs.any (Nat.beq x)=true:=List.any_eq_true.2 ⟨x,hx,Nat.beq_refl x⟩
  rw [h.1]at this;cases this
section
variable {sel:List Nat} {g:Gh} {M M2:Nat→Prop} {a:AH}
theorem XDT {p i:Nat} (h:sel[p]?=some i):(X4t sel g)[p]?=some ((g[i]?).getD none):=by
 unfold X4t;rw [List.getElem?_map,h];rfl
theorem DL.ren {gc:Gh} (hg:∀ i p,pos sel i=some p→∀ x,g[i]?=some x→gc[p]?=some x) (hm:∀ k,k<a.next→M2 k→M k) {d d':D} {v:Value} (e:XGJ sel d=some d') (h:DL M g a d v):DL M2 gc a d' v:=by
 cases d with
 | loc i o =>
  simp only [XGJ]at e
  split at e
  case h_2=>cases e
  rename_i p hp
  cases e
  obtain⟨b,k,h1,h2⟩:=h
  exact⟨b,k,hg i p hp _ h1,h2⟩
 | row i o n c =>
  simp only [XGJ]at e
  split at e
  case h_2=>cases e
  rename_i p hp
  cases e
  rcases h with⟨h1,h2⟩ | ⟨b,k,h1,h2⟩
  · exact .inl ⟨hg i p hp _ h1,h2⟩
  · exact .inr ⟨b,k,hg i p hp _ h1,h2⟩
 | any=>cases e;trivial
 | cmp=>cases e;exact h
 | ep e' n cs o=>cases e;obtain⟨b,i,h1,h2⟩:=h;exact⟨b,i,h1,h2.mono (X1C.refl (fun _=>False) a) (fun _ f=>f.elim) hm⟩
 | bx cs o=>cases e;obtain⟨b,h1,h2⟩:=h;exact⟨b,h1,h2.mono (X1C.refl (fun _=>False) a) (fun _ f=>f.elim) hm⟩
 | _=>cases e;exact CR.mono h (X1C.refl (fun _=>False) a) (fun _ f=>f.elim) hm
theorem X8o {gc:Gh} (hg:∀ i p,pos sel i=some p→∀ x,g[i]?=some x→gc[p]?=some x) (hm:∀ k,k<a.next→M2 k→M k):∀ {ds ds':List D} {vs:List Value},XEJ sel ds=some ds'→F2 (DL M g a) ds vs→F2 (DL M2 gc a) ds' vs:=by
 intro ds
 induction ds with
 | nil=>intro ds' vs e h;cases e;cases h;exact .nil
 | cons d ds ih =>
  intro ds' vs e h
  simp only [XEJ]at e
  split at e
  ·
   rename_i x xs e1 e2
   cases e
   cases h with
   | cons h1 h2=>exact .cons (DL.ren hg hm e1 h1) (ih e2 h2)
  · cases e
theorem XFb {gc:Gh} (hg:∀ i p,pos sel i=some p→∀ x,g[i]?=some x→gc[p]?=some x) (hm:∀ k,k<a.next→M2 k→M k) {d d':D} {v:Value} (e:XGh sel d=some d') (h:D1 M g a d v):D1 M2 gc a d' v:=by
 rcases X3N d with⟨ds,rfl⟩ | ⟨f0,ds,rfl⟩ | e1
 ·
  simp only [XGh]at e
  split at e
  case h_2=>cases e
  rename_i xs hx
  cases e
  obtain⟨vs,h1,h2⟩:=h
  exact⟨vs,h1,X8o hg hm hx h2⟩
 ·
  simp only [XGh]at e
  split at e
  case h_2=>cases e
  rename_i xs hx
  cases e
  obtain⟨vs,h1,h2⟩:=h
  exact⟨vs,h1,X8o hg hm hx h2⟩
 ·
  rw [e1]at h
  have:XGh sel d=XGJ sel d:=by
   cases d with
   | agg ds=>have h':CR M a (.agg ds) v:=h;cases h'
   | clo f ds=>have h':CR M a (.clo f ds) v:=h;cases h'
   | _=>rfl
  rw [this]at e
  exact(DL.ren hg hm e h).d1
theorem XFc {gc:Gh} (hg:∀ i p,pos sel i=some p→∀ x,g[i]?=some x→gc[p]?=some x) (hm:∀ k,k<a.next→M2 k→M k):∀ {ds ds':List D} {vs:List Value},XFY sel ds=some ds'→F2 (D1 M g a) ds vs→F2 (D1 M2 gc a) ds' vs:=by
 intro ds
 induction ds with
 | nil=>intro ds' vs e h;cases e;cases h;exact .nil
 | cons d ds ih =>
  intro ds' vs e h
  simp only [XFY]at e
  split at e
  ·
   rename_i x xs e1 e2
   cases e
   cases h with
   | cons h1 h2=>exact .cons (XFb hg hm e1 h1) (ih e2 h2)
  · cases e
theorem XDU {sel:List Nat} {L:List Ob}:∀ {is:List Nat} {Lc:List Ob},XFa sel L is=some Lc→Lc.length=is.length∧∀ (p i:Nat),is[p]?=some i→∃ o o',L[i]?=some o∧XFZ sel o=some o'∧Lc[p]?=some o':=by
 intro is
 induction is with
 | nil=>intro Lc h;cases h;exact⟨rfl,fun p i e=>by simp at e⟩
 | cons j is ih =>
  intro Lc h
  simp only [XFa]at h
  split at h
  case h_2=>cases h
  rename_i o ho
  split at h
  ·
   rename_i x xs e1 e2
   cases h
   obtain⟨q1,q2⟩:=ih e2
   refine⟨by simp [q1],fun p i e=>?_⟩
   cases p with
   | zero=>simp at e;subst e;exact⟨o,x,ho,e1,by simp⟩
   | succ p=>obtain⟨o,o',r1,r2,r3⟩:=q2 p i (by simpa using e);exact⟨o,o',r1,r2,by simpa using r3⟩
  · cases h
end
theorem XGi {sel:List Nat} {L':List Ob}:∀ {E:X0m} {t:Nat} {d:D},lk (clE sel L' E) t=some d→∃ x,lk E t=some x∧d=clD sel L' x:=by
 intro E
 induction E with
 | nil=>intro t d h;cases h
 | cons p E ih =>
  obtain⟨u,x⟩:=p
  intro t d h
  rcases X1g (r:=clE sel L' E) h with⟨rfl,rfl⟩ | ⟨h1,h2⟩
  · exact⟨x,X0x ..,rfl⟩
  ·
   obtain⟨y,q1,q2⟩:=ih h2
   exact⟨y,by rw [X0q _ _ h1];exact q1,q2⟩
section
variable {sel:List Nat} {L':List Ob} {M M2 W:Nat→Prop} {g g2:Gh} {a a':AH} (K:X1C W a a') (hw:∀ k,W k→M k) (hm:∀ k,k<a.next→M2 k→M k)
 (h1:∀ (i:Nat),pos sel i=none→∀ x,g[i]?=some x→g2[i]?=some x) (h2:∀ (i p:Nat) cs,pos sel i=some p→L'[p]?=some (.box cs)→∀ b k,g[i]?=some (some (b,k))→g2[i]?=some (some (b,k)))
include K hw hm h1 h2
theorem DL.cl {d:D} {v:Value} (h:DL M g a d v):DL M2 g2 a' (cl1 sel L' d) v:=by
 cases d with
 | loc i o =>
  have hc:=XBY h
  obtain⟨b,k,e1,e2⟩:=h
  simp only [cl1]
  split
  ·
   rename_i p hp
   split
   · rename_i cs hL;exact⟨b,k,h2 i p cs hp hL b k e1,e2⟩
   · exact hc
  · rename_i hp;exact⟨b,k,h1 i hp _ e1,e2⟩
 | row i o n c =>
  simp only [cl1]
  split
  · exact(XBZ h:DL M g a .cmp v)
  ·
   rename_i hp
   rcases h with⟨e1,e2⟩ | ⟨b,k,e1,e2⟩
   · exact .inl ⟨h1 i hp _ e1,e2⟩
   · exact .inr ⟨b,k,h1 i hp _ e1,e2⟩
 | any=>trivial
 | cmp=>exact h
 | ep e n cs o=>obtain⟨b,i,e1,e2⟩:=h;exact⟨b,i,e1,e2.mono K hw hm⟩
 | bx cs o=>obtain⟨b,e1,e2⟩:=h;exact⟨b,e1,e2.mono K hw hm⟩
 | _=>exact CR.mono h K hw hm
theorem D1.cl {d:D} {v:Value} (h:D1 M g a d v):D1 M2 g2 a' (cl2 sel L' d) v:=by
 rcases X3N d with⟨ds,rfl⟩ | ⟨f0,ds,rfl⟩ | e
 ·
  obtain⟨vs,e1,e2⟩:=h
  refine⟨vs,e1,?_⟩
  clear e1
  induction e2 with
  | nil=>exact .nil
  | cons h t ih=>exact .cons (DL.cl K hw hm h1 h2 h) ih
 ·
  obtain⟨vs,e1,e2⟩:=h
  refine⟨vs,e1,?_⟩
  clear e1
  induction e2 with
  | nil=>exact .nil
  | cons h t ih=>exact .cons (DL.cl K hw hm h1 h2 h) ih
 ·
  rw [e]at h
  have:cl2 sel L' d=cl1 sel L' d:=by
   cases d with
   | agg ds=>have h':CR M a (.agg ds) v:=h;cases h'
   | clo f ds=>have h':CR M a (.clo f ds) v:=h;cases h'
   | _=>rfl
  rw [this];exact(DL.cl K hw hm h1 h2 h).d1
theorem DR.cl {d:D} {v:Value} (h:DR M g a d v):DR M2 g2 a' (clD sel L' d) v:=by
 rcases X3w d with⟨ds,rfl⟩ | e
 ·
  obtain⟨vs,e1,e2⟩:=h
  refine⟨vs,e1,?_⟩
  clear e1
  induction e2 with
  | nil=>exact .nil
  | cons h t ih=>exact .cons (D1.cl K hw hm h1 h2 h) ih
 ·
  rw [e]at h
  have:clD sel L' d=cl2 sel L' d:=by
   cases d with
   | tup ds=>have h':CR M a (.tup ds) v:=h;cases h'
   | _=>rfl
  rw [this];exact(D1.cl K hw hm h1 h2 h).dr
end
section
variable {sel:List Nat} {n:Nat} {M M2:Nat→Prop} {g' g2:Gh} {a:AH} (hm:∀ k,k<a.next→M2 k→M k) (hg:∀ (p:Nat) x,g'[p]?=some x→g2[bk sel n p]?=some x)
include hm hg
theorem DL.back {d:D} {v:Value} (h:DL M g' a d v):DL M2 g2 a (XAU sel n d) v:=by
 cases d with
 | loc i o=>obtain⟨b,k,e1,e2⟩:=h;exact⟨b,k,hg _ _ e1,e2⟩
 | row i o m c =>
  rcases h with⟨e1,e2⟩ | ⟨b,k,e1,e2⟩
  · exact .inl ⟨hg _ _ e1,e2⟩
  · exact .inr ⟨b,k,hg _ _ e1,e2⟩
 | any=>trivial
 | cmp=>exact h
 | ep e m cs o=>obtain⟨b,i,e1,e2⟩:=h;exact⟨b,i,e1,e2.mono (X1C.refl (fun _=>False) a) (fun _ f=>f.elim) hm⟩
 | bx cs o=>obtain⟨b,e1,e2⟩:=h;exact⟨b,e1,e2.mono (X1C.refl (fun _=>False) a) (fun _ f=>f.elim) hm⟩
 | _=>exact CR.mono h (X1C.refl (fun _=>False) a) (fun _ f=>f.elim) hm
theorem D1.back {d:D} {v:Value} (h:D1 M g' a d v):D1 M2 g2 a (XBg sel n d) v:=by
 rcases X3N d with⟨ds,rfl⟩ | ⟨f0,ds,rfl⟩ | e
 ·
  obtain⟨vs,e1,e2⟩:=h
  refine⟨vs,e1,?_⟩
  clear e1
  induction e2 with
  | nil=>exact .nil
  | cons h t ih=>exact .cons (DL.back hm hg h) ih
 ·
  obtain⟨vs,e1,e2⟩:=h
  refine⟨vs,e1,?_⟩
  clear e1
  induction e2 with
  | nil=>exact .nil
  | cons h t ih=>exact .cons (DL.back hm hg h) ih
 ·
  rw [e]at h
  have:XBg sel n d=XAU sel n d:=by
   cases d with
   | agg ds=>have h':CR M a (.agg ds) v:=h;cases h'
   | clo f ds=>have h':CR M a (.clo f ds) v:=h;cases h'
   | _=>rfl
  rw [this];exact(DL.back hm hg h).d1
theorem DR.back {d:D} {v:Value} (h:DR M g' a d v):DR M2 g2 a (X8n sel n d) v:=by
 rcases X3w d with⟨ds,rfl⟩ | e
 ·
  obtain⟨vs,e1,e2⟩:=h
  refine⟨vs,e1,?_⟩
  clear e1
  induction e2 with
  | nil=>exact .nil
  | cons h t ih=>exact .cons (D1.back hm hg h) ih
 ·
  rw [e]at h
  have:X8n sel n d=XBg sel n d:=by
   cases d with
   | tup ds=>have h':CR M a (.tup ds) v:=h;cases h'
   | _=>rfl
  rw [this];exact(D1.back hm hg h).dr
theorem ObR.back {x:Option (Nat×Nat)} {o:Ob} (h:ObR M g' a x o):ObR M2 g2 a x (X6I sel n o):=by
 cases o with
 | box cs =>
  obtain⟨b,k,vs,rfl,e2,e3⟩:=h
  refine⟨b,k,vs,rfl,e2,?_⟩
  clear e2
  induction e3 with
  | nil=>exact .nil
  | cons h t ih=>exact .cons (DL.back hm hg h) ih
 | row e m cs =>
  obtain⟨hl,h⟩:=h
  refine⟨hl,?_⟩
  rcases h with h | ⟨b,k,vs,rfl,e2,e3⟩
  · exact .inl h
  · exact .inr ⟨b,k,vs,rfl,e2,e3.mono fun _ _ r=>r.mono (X1C.refl (fun _=>False) a) (fun _ f=>f.elim) hm⟩
 | dead=>exact h
end
section
variable {ops:Array Oper} {dst:Option Nat} {ty:TypeId} {pos_:String} {after:Array Edge} {l:List Oper} {E:X0m} {L:List Ob} {q:SD→Prop}
theorem OD.callG (sel:List Nat) {x:Operand} {args:Array Operand} {ats:Array TypeId} {f:FuncId} {ds ds' cs:List D} {Lc:List Ob} {R:D→List Ob→Prop}
  (hf:FnD P ov f ds' Lc R) (hx:∀ g s a,SR C ⟨E,L⟩ g s a→∃ ca:Array Value,zev s x=some (.func (.func f) #[] ca)∧F2 (D1 (MM C.M g) g a) cs ca.toList) (hl:zdL E args.toList=some ds) (hr:XFY sel (ds++cs)=some ds') (hLc:XFa sel L sel=some Lc) (hnd:X5G sel=true) (hb:X1z P f=true)
  (h:∀ r L',R r L'→OD P ov C ops l ⟨pt C.nt (clE sel L' E) dst (X8n sel L.length r),XDS sel L' L⟩ q):OD P ov C ops (⟨dst,.call ⟨.value x,args,ats⟩,ty,pos_,after,none⟩::l) ⟨E,L⟩ q:=by
 intro g s a S
 have hlen:g.length=L.length:=S.len
 have nd:=XBh hnd
 obtain⟨hLl,hLg⟩:=XDU hLc
 obtain⟨ca,q1,q2⟩:=hx g s a S
 obtain⟨vs,q3,q4⟩:=X9j S hl
 have q5:=q4.append q2
 have hsel:∀ (p i:Nat),sel[p]?=some i→i<g.length∧(X4t sel g)[p]?=g[i]?:=by
  intro p i e
  obtain⟨o,o',r1,_,_⟩:=hLg p i e
  have hi:i<g.length:=by rw [hlen];exact(List.getElem?_eq_some_iff.1 r1).1
  refine⟨hi,?_⟩
  rw [XDT e,List.getElem?_eq_getElem hi];rfl
 have hget:∀ (i p:Nat),pos sel i=some p→∀ x,g[i]?=some x→(X4t sel g)[p]?=some x:=fun i p e x ex=>by
  rw [(hsel p i (X3Q e)).2,ex]
 have hsc:∀ k,k∈Gh.cls (X4t sel g)→∃ (p i:Nat) (b:Nat),sel[p]?=some i∧g[i]?=some (some (b,k)):=by
  intro k hk
  obtain⟨p,b,e⟩:=Gh.mem_cls.1 hk
  have hp:p<sel.length:=by have:=(List.getElem?_eq_some_iff.1 e).1;simpa[X4t]using this
  have es:sel[p]?=some sel[p]:=List.getElem?_eq_getElem hp
  rw [(hsel p _ es).2]at e
  exact⟨p,_,b,es,e⟩
 have hsub:∀ k,k∈Gh.cls (X4t sel g)→k∈g.cls:=fun k hk=>by
  obtain⟨p,i,b,_,e⟩:=hsc k hk
  exact Gh.mem_cls.2 ⟨i,b,e⟩
 let Mc:Nat→Prop:=fun k=>MM C.M g k∧k ∉ Gh.cls (X4t sel g)
 have hMc:∀ k,MM Mc (X4t sel g) k→MM C.M g k:=fun k m=>by
  rcases m with m | m
  · exact m.1
  · exact .inr (hsub k m)
 have ndc:(Gh.cls (X4t sel g)).Nodup:=by
  refine Gh.nodup_of fun i j b b' k e1 e2=>?_
  have hi:i<sel.length:=by have:=(List.getElem?_eq_some_iff.1 e1).1;simpa[X4t]using this
  have hj:j<sel.length:=by have:=(List.getElem?_eq_some_iff.1 e2).1;simpa[X4t]using this
  have es1:sel[i]?=some sel[i]:=List.getElem?_eq_getElem hi
  have es2:sel[j]?=some sel[j]:=List.getElem?_eq_getElem hj
  rw [(hsel i _ es1).2]at e1
  rw [(hsel j _ es2).2]at e2
  have:=Gh.inj S.nd e1 e2
  exact(List.getElem?_inj hi nd).1 (by rw [es1,es2,this])
 have hargs:F2 (D1 (MM Mc (X4t sel g)) (X4t sel g) a) ds' (vs++ca.toList):=XFc hget (fun k _ m=>hMc k m) hr q5
 have hobj:∀ (p:Nat) x o,(X4t sel g)[p]?=some x→Lc[p]?=some o→ObR (MM Mc (X4t sel g)) (X4t sel g) a x o:=by
  intro p x o e1 e2
  have hp:p<sel.length:=by have:=(List.getElem?_eq_some_iff.1 e1).1;simpa[X4t]using this
  have es:sel[p]?=some sel[p]:=List.getElem?_eq_getElem hp
  obtain⟨o0,o',r1,r2,r3⟩:=hLg p _ es
  rw [r3]at e2;cases e2
  rw [(hsel p _ es).2]at e1
  have O:=S.obj _ x o0 e1 r1
  cases o0 with
  | box cs =>
   simp only [XFZ]at r2
   split at r2
   case h_2=>cases r2
   rename_i xs hx
   cases r2
   obtain⟨b,k,vs,rfl,p1,p2⟩:=O
   exact⟨b,k,vs,rfl,p1,X8o hget (fun k _ m=>hMc k m) hx p2⟩
  | row e n cs =>
   cases r2
   obtain⟨hl,O⟩:=O
   refine⟨hl,?_⟩
   rcases O with O | ⟨b,k,vs,rfl,p1,p2⟩
   · exact .inl O
   · exact .inr ⟨b,k,vs,rfl,p1,p2.mono fun _ _ r=>r.mono (X1C.refl (fun _=>False) a) (fun _ f=>f.elim) fun k _ m=>hMc k m⟩
  | dead=>cases r2;exact O
 have F:=hf Mc (X4t sel g) a (vs++ca.toList) S.ok (fun k m=>S.mmlt m.1) (by rw [hLl];simp [X4t]) ndc (fun k hk=>⟨fun m=>m.2 hk,(S.nm k (hsub k hk)).2.1⟩) hobj hargs
 refine X31.cons S.kp (fun _ _=>rfl) (X4e.call rfl q1 q3 hb (fi:=#[]) (ca:=ca) ?_)
 simp only [List.nil_append]
 refine F.mono fun u a' hu=>?_
 obtain⟨r,L',g',r1,r2,r3,r4,r5,r6,r7,r8,r9,r10,rR⟩:=hu
 have hsl:sel.length≤g'.length:=by rw [r2,← hLl];exact r3
 have hg2:∀ (i:Nat),i<g.length→(X8V sel g' g)[i]?=(g[i]?).map fun x=>match pos sel i with
   | some p=>(g'[p]?).getD none
   | none=>x:=by
  intro i hi
  unfold X8V
  rw [List.getElem?_append_left (by rw [X21];exact hi),X6y,Nat.zero_add]
 have hg2n:∀ (i:Nat),g.length≤i→(X8V sel g' g)[i]?=g'[sel.length+(i - g.length)]?:=by
  intro i hi
  unfold X8V
  rw [List.getElem?_append_right (by rw [X21];exact hi),X21,List.getElem?_drop]
 have hpos:∀ i p,pos sel i=some p→i<g.length∧p<sel.length:=fun i p e=>⟨(hsel p i (X3Q e)).1,(List.getElem?_eq_some_iff.1 (X3Q e)).1⟩
 have hbk:∀ (p:Nat) x,g'[p]?=some x→(X8V sel g' g)[bk sel L.length p]?=some x:=by
  intro p x e
  unfold bk
  split
  ·
   rename_i i hi
   obtain⟨h1,_⟩:=hsel p i hi
   rw [hg2 i h1,List.getElem?_eq_getElem h1]
   simp only [Option.map_some,XET nd hi,e,Option.getD_some]
  ·
   rename_i hi
   have hp:sel.length≤p:=List.getElem?_eq_none_iff.1 hi
   rw [hg2n _ (by omega),← e]
   congr 1;omega
 have hun:∀ (i:Nat),pos sel i=none→∀ x,g[i]?=some x→(X8V sel g' g)[i]?=some x:=by
  intro i e x ex
  have hi:=(List.getElem?_eq_some_iff.1 ex).1
  rw [hg2 i hi,ex]
  simp only [Option.map_some,e]
 have hinv:∀ (i:Nat) b k,(X8V sel g' g)[i]?=some (some (b,k))→(pos sel i=none∧i<g.length∧g[i]?=some (some (b,k)))∨∃ p,g'[p]?=some (some (b,k))∧i=bk sel L.length p:=by
  intro i b k e
  by_cases hi:i<g.length
  ·
   rw [hg2 i hi,List.getElem?_eq_getElem hi]at e
   simp only [Option.map_some,Option.some.injEq]at e
   split at e
   ·
    rename_i p hp
    cases eg:g'[p]? with
    | none=>rw [eg]at e;cases e
    | some y =>
     rw [eg]at e
     have e:y=some (b,k):=e
     subst e
     refine .inr ⟨p,eg,?_⟩
     unfold bk
     rw [X3Q hp]
   ·
    rename_i hp
    exact .inl ⟨hp,hi,by rw [List.getElem?_eq_getElem hi,e]⟩
  ·
   rw [hg2n i (by omega)]at e
   refine .inr ⟨_,e,?_⟩
   unfold bk
   rw [List.getElem?_eq_none (by omega)]
   simp only
   omega
 have hnotsel:∀ (i:Nat) b k,pos sel i=none→g[i]?=some (some (b,k))→k ∉ Gh.cls (X4t sel g):=by
  intro i b k e e1 hk
  obtain⟨p,j,b',es,ej⟩:=hsc k hk
  have:=Gh.inj S.nd e1 ej
  subst this
  rw [XET nd es]at e;cases e
 have hMM:∀ k,MM C.M (X8V sel g' g) k→MM Mc g' k:=by
  intro k m
  rcases m with m | m
  · exact .inl ⟨.inl m,fun hk=>(S.nm k (hsub k hk)).1 m⟩
  ·
   obtain⟨i,b,e⟩:=Gh.mem_cls.1 m
   rcases hinv i b k e with⟨h1,_,h3⟩ | ⟨p,hp,_⟩
   · exact .inl ⟨.inr (Gh.mem_cls.2 ⟨i,b,h3⟩),hnotsel i b k h1 h3⟩
   · exact .inr (Gh.mem_cls.2 ⟨p,b,hp⟩)
 have hcls:∀ k∈Gh.cls (X8V sel g' g),k∈g.cls∨(a.next≤k∧k<a'.next):=by
  intro k hk
  obtain⟨i,b,e⟩:=Gh.mem_cls.1 hk
  rcases hinv i b k e with⟨_,_,h3⟩ | ⟨p,hp,_⟩
  · exact .inl (Gh.mem_cls.2 ⟨i,b,h3⟩)
  ·
   obtain⟨_,h2,h3⟩:=r5 k (Gh.mem_cls.2 ⟨p,b,hp⟩)
   rcases h3 with h3 | h3
   · exact .inl (hsub k h3)
   · exact .inr ⟨h3,h2⟩
 have hm:∀ k,k<a.next→MM C.M (X8V sel g' g) k→MM C.M g k:=S.mm hcls
 have hw:∀ k,k∈Gh.cls (X4t sel g)→MM C.M g k:=fun k hk=>.inr (hsub k hk)
 have hbox:∀ (i p:Nat) cs,pos sel i=some p→L'[p]?=some (.box cs)→∀ b k,g[i]?=some (some (b,k))→(X8V sel g' g)[i]?=some (some (b,k)):=by
  intro i p cs hp hL b k e
  have e':(X4t sel g)[p]?=some (some (b,k)):=hget i p hp _ e
  have:=r9 p b k cs e' hL
  obtain⟨hi,_⟩:=hpos i p hp
  rw [hg2 i hi,e]
  simp only [Option.map_some,hp,this,Option.getD_some]
 have nd2:(Gh.cls (X8V sel g' g)).Nodup:=by
  refine Gh.nodup_of fun i j b b' k e1 e2=>?_
  have cross:∀ (i b p b':Nat),pos sel i=none→g[i]?=some (some (b,k))→g'[p]?=some (some (b',k))→False:=by
   intro i b p b' h1 h3 hp
   obtain⟨_,_,h5⟩:=r5 k (Gh.mem_cls.2 ⟨p,b',hp⟩)
   rcases h5 with h5 | h5
   · exact hnotsel i b k h1 h3 h5
   ·
    have:=(S.nm k (Gh.mem_cls.2 ⟨i,b,h3⟩)).2.1
    omega
  rcases hinv i b k e1 with⟨h1,_,h3⟩ | ⟨p,hp,hip⟩
  ·
   rcases hinv j b' k e2 with⟨_,_,h4⟩ | ⟨p,hp,_⟩
   · exact Gh.inj S.nd h3 h4
   · exact(cross i b p b' h1 h3 hp).elim
  ·
   rcases hinv j b' k e2 with⟨h1,_,h3⟩ | ⟨p',hp',hjp⟩
   · exact(cross j b' p b h1 h3 hp).elim
   · rw [hip,hjp,Gh.inj r4 hp hp']
 have S':SR C ⟨clE sel L' E,XDS sel L' L⟩ (X8V sel g' g) s a':=by
  refine S.heap r7 (fun k hk=>hsub k hk) r8 ?_ ?_ hcls nd2 (fun t d e=>?_) (fun i x o e1 e2=>?_) fun i cs e=>?_
  · simp only [X8V,XDS,List.length_append,X21,List.length_drop,List.length_map,hlen,r2]
  · simp only [X8V,List.length_append,X21];omega
  ·
   obtain⟨y,hy,rfl⟩:=XGi e
   exact DR.cl r7 hw hm hun hbox (S.env t y hy)
  ·
   by_cases hi:i<L.length
   ·
    unfold XDS at e2
    rw [List.getElem?_append_left (by rw [X21];exact hi),X6y,Nat.zero_add]at e2
    have eL:L[i]?=some L[i]:=List.getElem?_eq_getElem hi
    rw [eL]at e2
    simp only [Option.map_some,Option.some.injEq]at e2
    have eg:g[i]?=some (g[i]'(by omega)):=List.getElem?_eq_getElem (by omega)
    rw [hg2 i (by omega),eg]at e1
    simp only [Option.map_some,Option.some.injEq]at e1
    split at e2
    ·
     rename_i p hp
     rw [hp]at e1
     simp only at e1
     have hpl:p<g'.length:=by have:=(hpos i p hp).2;omega
     have eg':g'[p]?=some g'[p]:=List.getElem?_eq_getElem hpl
     rw [eg',Option.getD_some]at e1
     split at e2
     ·
      rename_i o' ho'
      subst e2 e1
      exact ObR.back (fun k _ m=>hMM k m) hbk (r6 p _ o' eg' ho')
     ·
      rename_i ho'
      have:L'.length≤p:=List.getElem?_eq_none_iff.1 ho'
      omega
    ·
     rename_i hp
     rw [hp]at e1
     simp only at e1
     subst e2 e1
     have O:=S.obj i _ _ eg eL
     have hxW:∀ b k,g[i]'(by omega)=some (b,k)→k ∉ Gh.cls (X4t sel g):=fun b k e=>hnotsel i b k hp (by rw [eg,e])
     cases hob:L[i]with
     | box cs =>
      rw [hob]at O
      obtain⟨b,k,vs,e3,p1,p2⟩:=O
      refine⟨b,k,vs,e3,r7.blk _ _ p1 (hxW b k e3),?_⟩
      clear p1 hob
      induction p2 with
      | nil=>exact .nil
      | cons h t ih=>exact .cons (DL.cl r7 hw hm hun hbox h) ih
     | row e n cs =>
      rw [hob]at O
      obtain⟨hl,O⟩:=O
      refine⟨hl,?_⟩
      rcases O with O | ⟨b,k,vs,e3,p1,p2⟩
      · exact .inl O
      · exact .inr ⟨b,k,vs,e3,r7.blk _ _ p1 (hxW b k e3),p2.mono fun _ _ r=>r.mono r7 hw hm⟩
     | dead=>rw [hob]at O;exact O
   ·
    unfold XDS at e2
    rw [List.getElem?_append_right (by rw [X21];omega),X21,List.getElem?_map,List.getElem?_drop]at e2
    obtain⟨o',ho',rfl⟩:=Option.map_eq_some_iff.1 e2
    rw [hg2n i (by omega),hlen]at e1
    exact ObR.back (fun k _ m=>hMM k m) hbk (r6 _ _ o' e1 ho')
  ·
   by_cases hi:i<L.length
   ·
    refine .inr ?_
    unfold XDS at e
    rw [List.getElem?_append_left (by rw [X21];exact hi),X6y,Nat.zero_add]at e
    have eL:L[i]?=some L[i]:=List.getElem?_eq_getElem hi
    rw [eL]at e
    simp only [Option.map_some,Option.some.injEq]at e
    have eg:g[i]?=some (g[i]'(by omega)):=List.getElem?_eq_getElem (by omega)
    split at e
    ·
     rename_i p hp
     split at e
     ·
      rename_i o' ho'
      cases o' with
      | box cs' =>
       have hpl:=(hpos i p hp).2
       obtain⟨cs0,h0⟩:=r10 p cs' (by rw [hLl];exact hpl) ho'
       obtain⟨o0,o1,t1,t2,t3⟩:=hLg p i (X3Q hp)
       rw [t3]at h0;cases h0
       have:∃ cs,o0=.box cs:=by
        cases o0 with
        | box cs=>exact⟨cs,rfl⟩
        | row e n cs=>cases t2
        | dead=>cases t2
       obtain⟨cs1,rfl⟩:=this
       refine⟨⟨cs1,t1⟩,fun x ex=>?_⟩
       obtain⟨b,k,vs,e3,_,_⟩:=S.obj i x _ ex t1
       subst e3
       exact hbox i p cs' hp ho' b k ex
      | row e n cs=>cases e
      | dead=>cases e
     · cases e
    ·
     rename_i hp
     refine⟨?_,fun x ex=>hun i hp x ex⟩
     cases hob:L[i]with
     | box cs=>exact⟨cs,by rw [eL,hob]⟩
     | row e' n cs=>rw [hob]at e;cases e
     | dead=>rw [hob]at e;cases e
   · exact .inl (by omega)
 exact h r L' rR (X8V sel g' g) _ a' (S'.put (DR.back (fun k _ m=>hMM k m) hbk r1) dst)
theorem OD.callO (sel:List Nat) {x:Operand} {args:Array Operand} {ats:Array TypeId} {f:FuncId} {ds ds':List D} {Lc:List Ob} {R:D→List Ob→Prop}
  (hf:FnD P ov f ds' Lc R) (hx:zd E x=some (.fn f)) (hl:zdL E args.toList=some ds) (hr:XFY sel ds=some ds') (hLc:XFa sel L sel=some Lc) (hnd:X5G sel=true) (hb:X1z P f=true)
  (h:∀ r L',R r L'→OD P ov C ops l ⟨pt C.nt (clE sel L' E) dst (X8n sel L.length r),XDS sel L' L⟩ q):OD P ov C ops (⟨dst,.call ⟨.value x,args,ats⟩,ty,pos_,after,none⟩::l) ⟨E,L⟩ q :=
 OD.callG (cs:=[]) sel hf (fun g s a S=>by obtain⟨v,q1,q2⟩:=X0C S hx;cases q2;exact⟨#[],q1,.nil⟩) hl (by rw [List.append_nil];exact hr) hLc hnd hb h
theorem OD.callC (sel:List Nat) {x:Operand} {args:Array Operand} {ats:Array TypeId} {f:FuncId} {ds ds' cs:List D} {Lc:List Ob} {R:D→List Ob→Prop}
  (hf:FnD P ov f ds' Lc R) (hx:zd E x=some (.clo f cs)) (hl:zdL E args.toList=some ds) (hr:XFY sel (ds++cs)=some ds') (hLc:XFa sel L sel=some Lc) (hnd:X5G sel=true) (hb:X1z P f=true)
  (h:∀ r L',R r L'→OD P ov C ops l ⟨pt C.nt (clE sel L' E) dst (X8n sel L.length r),XDS sel L' L⟩ q):OD P ov C ops (⟨dst,.call ⟨.value x,args,ats⟩,ty,pos_,after,none⟩::l) ⟨E,L⟩ q :=
 OD.callG sel hf (fun g s a S=>by
  obtain⟨v,q1,q2⟩:=X0C S hx
  obtain⟨vs,rfl,q3⟩:=q2
  exact⟨vs.toArray,q1,q3.mono fun _ _ r=>r.d1⟩) hl hr hLc hnd hb h
end
end
end Go.Vai

/-
  What is proved here: the document's way to a pattern's places (marks by place, from some places on) marks just those to w rising lists of places are told by their members; the machine's places and the document's are the sa where a machine's states lead to lies in it; one turn of the stack of states. one place further; the whole search. No conditions but those that the theorems state.
-/
import Derived.Test.YtiebldaihnbkmaaGreatDoorPureNfa1
set_option linter.unusedVariables false
set_option linter.unusedSimpArgs false
namespace Go.Nfa
def mk (b:List Bool) (j:Nat):Prop:=b[j]?=some true
def X9H (a b:List Bool):List Bool:=List.zipWith (fun x y=>x || y) a b
theorem X7G {a b:List Bool} (h:a.length=b.length):(X9H a b).length=a.length:=by simp [X9H,h]
theorem X7H {a b:List Bool} (h:a.length=b.length) (j:Nat):mk (X9H a b) j↔mk a j∨mk b j:=by
 unfold mk X9H
 rw [List.getElem?_zipWith]
 by_cases hj:j<a.length
 ·
  have hb:j<b.length:=by omega
  simp [List.getElem?_eq_getElem hj,List.getElem?_eq_getElem hb]
 ·
  have e1:a[j]?=none:=List.getElem?_eq_none (by omega)
  have e2:b[j]?=none:=List.getElem?_eq_none (by omega)
  simp [e1,e2]
def XIc (b:List Bool):Nat:=b.countP id
theorem XB5 {a b:List Bool} (h:a.length=b.length) (hne:X9H a b≠a):XIc a<XIc (X9H a b):=by
 induction a generalizing b with
 | nil=>cases b with
  | nil=>exact absurd rfl hne
  | cons y b=>simp at h
 | cons x a ih =>
  cases b with
  | nil=>simp at h
  | cons y b =>
   simp only [X9H,List.zipWith_cons_cons,XIc,List.countP_cons]at *
   have hle:∀ (a b:List Bool),a.length=b.length→List.countP id a≤List.countP id (List.zipWith (fun x y=>x || y) a b):=by
    intro a
    induction a with
    | nil=>intro b _;simp
    | cons u a ih2 =>
     intro b hb
     cases b with
     | nil=>simp at hb
     | cons v b =>
      have:=ih2 b (by simpa using hb)
      simp only [List.zipWith_cons_cons,List.countP_cons]
      cases u<;>cases v<;>simp<;>omega
   have h':a.length=b.length:=by simpa using h
   by_cases e:List.zipWith (fun x y=>x || y) a b=a
   ·
    rw [e]at hne ⊢
    cases x<;>cases y<;>simp at hne ⊢
   ·
    have:=ih h' e
    cases x<;>cases y<;>simp<;>omega
theorem XGj (b:List Bool):XIc b≤b.length:=List.countP_le_length
def grow (f:List Bool→List Bool) (mx:Int):Nat→Int→List Bool→List Bool→List Bool
 | 0,_,_,out=>out
 | k+1,i,x,out=>if mx<0∨i<mx then(if X9H out (f x)=out then out else grow f mx k (i+1) (f x) (X9H out (f x)))else out
def rep (f:List Bool→List Bool):Nat→List Bool→List Bool
 | 0,x=>x
 | k+1,x=>rep f k (f x)
section
variable (K:X47) (l:List Int)
def X20:List Bool:=List.replicate (l.length+1) false
def shift (set:List (Int×Int)) (no:Bool) (b:List Bool):List Bool:=(List.range (l.length+1)).map fun j=>match j with
 | 0=>false
 | i+1=>(b.getD i false) && (match l[i]? with | some r=>X2k set no r | none=>false)
mutual
def X1m:Nd→List Bool→List Bool
 | .mk kind set no kids mn mx,b =>
  if kind=K.set then shift l set no b
  else if kind=K.beg then(X20 l).set 0 (b.getD 0 false)
  else if kind=K.fin then(X20 l).set l.length (b.getD l.length false)
  else if kind=K.cat then X4U kids b
  else if kind=K.alt then X3r kids b (X20 l)
  else if kind=K.rep then X7I kids mn mx b
  else X20 l
def X4U:List Nd→List Bool→List Bool
 | [],b=>b
 | n::ns,b=>X4U ns (X1m n b)
def X3r:List Nd→List Bool→List Bool→List Bool
 | [],_,out=>out
 | n::ns,b,out=>X3r ns b (X9H out (X1m n b))
def X7I:List Nd→Int→Int→List Bool→List Bool
 | [],_,_,_=>X20 l
 | n::_,mn,mx,b=>grow (X1m n) mx (l.length+2) mn (rep (X1m n) mn.toNat b) (X9H (X20 l) (rep (X1m n) mn.toNat b))
end
def XGk (f:List Bool→List Bool) (R:Nat→Nat→Prop):Prop:=∀ b,b.length=l.length+1→(f b).length=l.length+1∧∀ j,mk (f b) j↔∃ i,mk b i∧R i j
theorem XAF (j:Nat):¬ mk (X20 l) j:=by
 unfold mk X20
 rw [List.getElem?_replicate];split<;>simp
theorem XGk.rep {f:List Bool→List Bool} {R:Nat→Nat→Prop} (h:XGk l f R):∀ k,XGk l (Nfa.rep f k) (X1d R k):=by
 intro k
 induction k with
 | zero=>intro b hb;exact⟨hb,fun j=>⟨fun x=>⟨j,x,rfl⟩,fun⟨i,x,e⟩=>by cases e;exact x⟩⟩
 | succ k ih =>
  intro b hb
  obtain⟨h1,h2⟩:=h b hb
  obtain⟨h3,h4⟩:=ih (f b) h1
  refine⟨h3,fun j=>?_⟩
  show mk (Nfa.rep f k (f b)) j↔_
  rw [h4]
  constructor
  · rintro⟨m,hm,ht⟩;obtain⟨i,hi,hr⟩:=(h2 m).1 hm;exact⟨i,hi,m,hr,ht⟩
  · rintro⟨i,hi,m,hr,ht⟩;exact⟨m,(h2 m).2 ⟨i,hi,hr⟩,ht⟩
theorem X1d.snoc {R:Nat→Nat→Prop} {k i m j:Nat} (h:X1d R k i m) (r:R m j):X1d R (k+1) i j:=h.append (b:=1) ⟨j,r,rfl⟩
theorem X1d.unsnoc {R:Nat→Nat→Prop} {k i j:Nat} (h:X1d R (k+1) i j):∃ m,X1d R k i m∧R m j:=by
 obtain⟨m,h1,p,h2,h3⟩:=X1d.split (a:=k) (b:=1) h
 cases h3
 exact⟨m,h1,h2⟩
theorem X9I {f:List Bool→List Bool} {R:Nat→Nat→Prop} (h:XGk l f R) {mx:Int} {b:List Bool} {a:Nat} :
  ∀ (fuel k:Nat) (x out:List Bool),x.length=l.length+1→out.length=l.length+1→l.length+2≤fuel+XIc out→a≤k→(mx<0∨(k:Int)≤mx) →
   (∀ j,mk x j↔∃ i,mk b i∧X1d R k i j)→(∀ j,mk out j↔∃ q,a≤q∧q≤k∧∃ i,mk b i∧X1d R q i j) →
   (grow f mx fuel k x out).length=l.length+1∧∀ j,mk (grow f mx fuel k x out) j↔∃ q:Nat,a≤q∧(mx<0∨(q:Int)≤mx)∧∃ i,mk b i∧X1d R q i j:=by
 intro fuel
 induction fuel with
 | zero =>
  intro k x out hx ho hf
  have:=XGj out
  omega
 | succ fuel ih =>
  intro k x out hx ho hf hak hmx hX hO
  unfold grow
  obtain⟨h1,h2⟩:=h x hx
  have hl:out.length=(f x).length:=by omega
  by_cases hc:mx<0∨(k:Int)<mx
  ·
   rw [if_pos hc]
   by_cases he:X9H out (f x)=out
   ·
    rw [if_pos he]
    refine⟨ho,fun j=>?_⟩
    rw [hO]
    constructor
    ·
     rintro⟨q,q1,q2,i,hi,ht⟩
     exact⟨q,q1,by rcases hmx with x | x<;>first | exact .inl x | exact .inr (by omega),i,hi,ht⟩
    ·
     rintro⟨q,q1,_,i,hi,ht⟩
     have new:∀ m,(∃ i,mk b i∧X1d R (k+1) i m)→mk out m:=by
      rintro m ⟨i,hi,ht⟩
      obtain⟨p,t1,t2⟩:=ht.unsnoc
      have:mk (f x) m:=(h2 m).2 ⟨p,(hX p).2 ⟨i,hi,t1⟩,t2⟩
      rw [← he,X7H hl];exact .inr this
     have all:∀ q,a≤q→∀ j,(∃ i,mk b i∧X1d R q i j)→mk out j:=by
      intro q
      induction q with
      | zero=>intro hq j hj;exact(hO j).2 ⟨0,hq,by omega,hj⟩
      | succ q ihq =>
       intro hq j ⟨i,hi,ht⟩
       by_cases hqk:q+1≤k
       · exact(hO j).2 ⟨q+1,hq,hqk,i,hi,ht⟩
       ·
        by_cases hqa:a≤q
        ·
         obtain⟨p,t1,t2⟩:=ht.unsnoc
         obtain⟨q',c1,c2,i',hi',ht'⟩:=(hO p).1 (ihq hqa p ⟨i,hi,t1⟩)
         by_cases hk:q'+1≤k
         · exact(hO j).2 ⟨q'+1,by omega,hk,i',hi',ht'.snoc t2⟩
         ·
          have:q'=k:=by omega
          subst this
          exact new j ⟨i',hi',ht'.snoc t2⟩
        ·
         have:q+1=a:=by omega
         omega
     exact(hO j).1 (all q q1 j ⟨i,hi,ht⟩)
   ·
    rw [if_neg he]
    have hcnt:=XB5 hl he
    have:=ih (k+1) (f x) (X9H out (f x)) h1 (by rw [X7G hl];exact ho) (by omega) (by omega) (by rcases hc with x | x<;>first | exact .inl x | exact .inr (by omega))
     (fun j=>by
      rw [h2]
      constructor
      · rintro⟨p,hp,hr⟩;obtain⟨i,hi,ht⟩:=(hX p).1 hp;exact⟨i,hi,ht.snoc hr⟩
      · rintro⟨i,hi,ht⟩;obtain⟨p,t1,t2⟩:=ht.unsnoc;exact⟨p,(hX p).2 ⟨i,hi,t1⟩,t2⟩)
     (fun j=>by
      rw [X7H hl,hO,h2]
      constructor
      ·
       rintro(⟨q,q1,q2,q3⟩ | ⟨p,hp,hr⟩)
       · exact⟨q,q1,by omega,q3⟩
       · obtain⟨i,hi,ht⟩:=(hX p).1 hp;exact⟨k+1,by omega,Nat.le_refl _,i,hi,ht.snoc hr⟩
      ·
       rintro⟨q,q1,q2,i,hi,ht⟩
       by_cases hq:q≤k
       · exact .inl ⟨q,q1,hq,i,hi,ht⟩
       ·
        have:q=k+1:=by omega
        subst this
        obtain⟨p,t1,t2⟩:=ht.unsnoc
        exact .inr ⟨p,(hX p).2 ⟨i,hi,t1⟩,t2⟩)
    have e:((k+1:Nat):Int)=(k:Int)+1:=by omega
    rw [e]at this
    exact this
  ·
   rw [if_neg hc]
   refine⟨ho,fun j=>?_⟩
   rw [hO]
   have hk:mx=k:=by
    rcases hmx with x | x
    · exact absurd (.inl x) hc
    ·
     have:¬ (k:Int)<mx:=fun y=>hc (.inr y)
     omega
   constructor
   · rintro⟨q,q1,q2,q3⟩;exact⟨q,q1,.inr (by omega),q3⟩
   ·
    rintro⟨q,q1,q2,q3⟩
    refine⟨q,q1,?_,q3⟩
    rcases q2 with x | x
    · exact absurd (.inl x) hc
    · omega
theorem XEW {set:List (Int×Int)} {no:Bool} {b:List Bool} (hb:b.length=l.length+1) (j:Nat):mk (shift l set no b) j↔∃ i,mk b i∧j=i+1∧∃ r,l[i]?=some r∧X2k set no r=true:=by
 unfold mk shift
 rw [List.getElem?_map]
 by_cases hj:j<l.length+1
 ·
  rw [List.getElem?_range hj,Option.map_some]
  cases j with
  | zero=>simp
  | succ i =>
   have hi:i<b.length:=by omega
   simp only
   rw [List.getD_eq_getElem?_getD,List.getElem?_eq_getElem hi]
   constructor
   ·
    intro h
    simp only [Option.some.injEq,Bool.and_eq_true,Option.getD_some]at h
    refine⟨i,by rw [List.getElem?_eq_getElem hi,h.1],rfl,?_⟩
    cases hr:l[i]? with
    | none=>rw [hr]at h;simp at h
    | some r=>rw [hr]at h;exact⟨r,rfl,h.2⟩
   ·
    rintro⟨i',h1,h2,r,h3,h4⟩
    have:i'=i:=by omega
    subst this
    rw [List.getElem?_eq_getElem hi]at h1
    simp only [Option.some.injEq]at h1
    simp [h1,h3,h4]
 ·
  rw [List.getElem?_eq_none (by simp;omega)]
  constructor
  · intro h;cases h
  ·
   rintro⟨i,h1,rfl,r,h3,_⟩
   have:=(List.getElem?_eq_some_iff.1 h3).1
   omega
mutual
theorem X7J:∀ (n:Nd),Ok K n→XGk l (X1m K l n) (M K l n)
 | .mk kind set no kids mn mx,ho=>by
  obtain⟨a1,a2,a3,a4,a5,b1,b2,b3,b4,c1,c2,c3,d1,d2,e1⟩:=K.dist
  unfold Ok at ho
  intro b hb
  rcases ho with h | h | h | ⟨h,hk⟩ | ⟨h,hne,hk⟩ | ⟨h,hm,hmx,hne,hk⟩
  ·
   subst h
   have e:X1m K l (.mk K.set set no kids mn mx) b=shift l set no b:=by unfold X1m;rw [if_pos rfl]
   rw [e]
   refine⟨by simp [shift],fun j=>?_⟩
   rw [XEW l hb]
   constructor
   · rintro⟨i,hi,x⟩;exact⟨i,hi,(X6g ..).2 (.inl ⟨rfl,x⟩)⟩
   ·
    rintro⟨i,hi,x⟩
    refine⟨i,hi,?_⟩
    rcases(X6g ..).1 x with⟨_,x⟩ | ⟨x,_⟩ | ⟨x,_⟩ | ⟨x,_⟩ | ⟨x,_⟩ | ⟨x,_⟩
    · exact x
    · exact absurd x a4
    · exact absurd x a5
    · exact absurd x a1
    · exact absurd x a2
    · exact absurd x a3
  ·
   subst h
   have e:X1m K l (.mk K.beg set no kids mn mx) b=(X20 l).set 0 (b.getD 0 false):=by unfold X1m;rw [if_neg (Ne.symm a4),if_pos rfl]
   rw [e]
   refine⟨by simp [X20],fun j=>?_⟩
   have hmk:mk ((X20 l).set 0 (b.getD 0 false)) j↔j=0∧mk b 0:=by
    unfold mk X20
    rw [List.getElem?_set]
    by_cases hj:0=j
    ·
     subst hj
     have:∃ v,b[0]?=some v:=⟨b[0]'(by omega),List.getElem?_eq_getElem (by omega)⟩
     obtain⟨v,hv⟩:=this
     simp [List.getD_eq_getElem?_getD,hv]
    ·
     rw [if_neg hj,List.getElem?_replicate]
     constructor
     · intro x;split at x<;>simp at x
     · rintro⟨x,_⟩;exact absurd x.symm hj
   rw [hmk]
   constructor
   · rintro⟨rfl,x⟩;exact⟨0,x,(X6g ..).2 (.inr (.inl ⟨rfl,rfl,rfl⟩))⟩
   ·
    rintro⟨i,hi,x⟩
    rcases(X6g ..).1 x with⟨x,_⟩ | ⟨_,x,y⟩ | ⟨x,_⟩ | ⟨x,_⟩ | ⟨x,_⟩ | ⟨x,_⟩
    · exact absurd x.symm a4
    · subst x y;exact⟨rfl,hi⟩
    · exact absurd x e1
    · exact absurd x.symm b3
    · exact absurd x.symm c2
    · exact absurd x.symm d1
  ·
   subst h
   have e:X1m K l (.mk K.fin set no kids mn mx) b=(X20 l).set l.length (b.getD l.length false):=by unfold X1m;rw [if_neg (Ne.symm a5),if_neg (Ne.symm e1),if_pos rfl]
   rw [e]
   refine⟨by simp [X20],fun j=>?_⟩
   have hmk:mk ((X20 l).set l.length (b.getD l.length false)) j↔j=l.length∧mk b l.length:=by
    unfold mk X20
    rw [List.getElem?_set]
    by_cases hj:l.length=j
    ·
     subst hj
     have:∃ v,b[l.length]?=some v:=⟨b[l.length]'(by omega),List.getElem?_eq_getElem (by omega)⟩
     obtain⟨v,hv⟩:=this
     simp [List.getD_eq_getElem?_getD,hv]
    ·
     rw [if_neg hj,List.getElem?_replicate]
     constructor
     · intro x;split at x<;>simp at x
     · rintro⟨x,_⟩;exact absurd x.symm hj
   rw [hmk]
   constructor
   · rintro⟨rfl,x⟩;exact⟨l.length,x,(X6g ..).2 (.inr (.inr (.inl ⟨rfl,rfl,rfl⟩)))⟩
   ·
    rintro⟨i,hi,x⟩
    rcases(X6g ..).1 x with⟨x,_⟩ | ⟨x,_⟩ | ⟨_,x,y⟩ | ⟨x,_⟩ | ⟨x,_⟩ | ⟨x,_⟩
    · exact absurd x.symm a5
    · exact absurd x.symm e1
    · subst x y;exact⟨rfl,hi⟩
    · exact absurd x.symm b4
    · exact absurd x.symm c3
    · exact absurd x.symm d2
  ·
   subst h
   have e:X1m K l (.mk K.cat set no kids mn mx) b=X4U K l kids b:=by unfold X1m;rw [if_neg (Ne.symm a1),if_neg b3,if_neg b4,if_pos rfl]
   rw [e]
   obtain⟨h1,h2⟩:=X6i kids hk b hb
   refine⟨h1,fun j=>?_⟩
   rw [h2]
   constructor
   · rintro⟨i,hi,x⟩;exact⟨i,hi,(X6g ..).2 (.inr (.inr (.inr (.inl ⟨rfl,x⟩))))⟩
   ·
    rintro⟨i,hi,x⟩
    refine⟨i,hi,?_⟩
    rcases(X6g ..).1 x with⟨x,_⟩ | ⟨x,_⟩ | ⟨x,_⟩ | ⟨_,x⟩ | ⟨x,_⟩ | ⟨x,_⟩
    · exact absurd x.symm a1
    · exact absurd x b3
    · exact absurd x b4
    · exact x
    · exact absurd x b1
    · exact absurd x b2
  ·
   subst h
   have e:X1m K l (.mk K.alt set no kids mn mx) b=X3r K l kids b (X20 l):=by unfold X1m;rw [if_neg (Ne.symm a2),if_neg c2,if_neg c3,if_neg (Ne.symm b1),if_pos rfl]
   rw [e]
   obtain⟨h1,h2⟩:=X6j kids hk b (X20 l) hb (by simp [X20])
   refine⟨h1,fun j=>?_⟩
   rw [h2]
   constructor
   ·
    rintro(x | ⟨i,hi,x⟩)
    · exact absurd x (XAF l j)
    · exact⟨i,hi,(X6g ..).2 (.inr (.inr (.inr (.inr (.inl ⟨rfl,x⟩)))))⟩
   ·
    rintro⟨i,hi,x⟩
    refine .inr ⟨i,hi,?_⟩
    rcases(X6g ..).1 x with⟨x,_⟩ | ⟨x,_⟩ | ⟨x,_⟩ | ⟨x,_⟩ | ⟨_,x⟩ | ⟨x,_⟩
    · exact absurd x.symm a2
    · exact absurd x c2
    · exact absurd x c3
    · exact absurd x.symm b1
    · exact x
    · exact absurd x c1
  ·
   subst h
   have e:X1m K l (.mk K.rep set no kids mn mx) b=X7I K l kids mn mx b:=by unfold X1m;rw [if_neg (Ne.symm a3),if_neg d1,if_neg d2,if_neg (Ne.symm b2),if_neg (Ne.symm c1),if_pos rfl]
   rw [e]
   obtain⟨h1,h2⟩:=XB6 kids hne hk mn mx hm hmx b hb
   refine⟨h1,fun j=>?_⟩
   rw [h2]
   constructor
   · rintro⟨i,hi,x⟩;exact⟨i,hi,(X6g ..).2 (.inr (.inr (.inr (.inr (.inr ⟨rfl,x⟩)))))⟩
   ·
    rintro⟨i,hi,x⟩
    refine⟨i,hi,?_⟩
    rcases(X6g ..).1 x with⟨x,_⟩ | ⟨x,_⟩ | ⟨x,_⟩ | ⟨x,_⟩ | ⟨x,_⟩ | ⟨_,x⟩
    · exact absurd x.symm a3
    · exact absurd x d1
    · exact absurd x d2
    · exact absurd x.symm b2
    · exact absurd x.symm c1
    · exact x
theorem X6i:∀ (ns:List Nd),OkL K ns→XGk l (X4U K l ns) (X89 K l ns)
 | [],_=>by
  intro b hb
  unfold X4U
  refine⟨hb,fun j=>⟨fun x=>⟨j,x,by rw [X89]⟩,fun⟨i,hi,x⟩=>by rw [X89]at x;subst x;exact hi⟩⟩
 | n::ns,ho=>by
  unfold OkL at ho
  intro b hb
  obtain⟨h1,h2⟩:=X7J n ho.1 b hb
  obtain⟨h3,h4⟩:=X6i ns ho.2 (X1m K l n b) h1
  unfold X4U
  refine⟨h3,fun j=>?_⟩
  rw [h4]
  constructor
  · rintro⟨m,hm,x⟩;obtain⟨i,hi,y⟩:=(h2 m).1 hm;exact⟨i,hi,by rw [X89];exact⟨m,y,x⟩⟩
  · rintro⟨i,hi,x⟩;rw [X89]at x;obtain⟨m,y,z⟩:=x;exact⟨m,(h2 m).2 ⟨i,hi,y⟩,z⟩
theorem X6j:∀ (ns:List Nd),OkL K ns→∀ (b out:List Bool),b.length=l.length+1→out.length=l.length+1→(X3r K l ns b out).length=l.length+1∧∀ j,mk (X3r K l ns b out) j↔mk out j∨∃ i,mk b i∧XB3 K l ns i j
 | [],_=>by
  intro b out hb ho
  unfold X3r
  refine⟨ho,fun j=>⟨.inl,fun x=>?_⟩⟩
  rcases x with x | ⟨i,_,x⟩
  · exact x
  · rw [XB3]at x;exact x.elim
 | n::ns,hok=>by
  unfold OkL at hok
  intro b out hb ho
  obtain⟨h1,h2⟩:=X7J n hok.1 b hb
  have hl:out.length=(X1m K l n b).length:=by omega
  obtain⟨h3,h4⟩:=X6j ns hok.2 b (X9H out (X1m K l n b)) hb (by rw [X7G hl];exact ho)
  unfold X3r
  refine⟨h3,fun j=>?_⟩
  rw [h4,X7H hl,h2]
  constructor
  ·
   rintro((x | ⟨i,hi,x⟩) | ⟨i,hi,x⟩)
   · exact .inl x
   · exact .inr ⟨i,hi,by rw [XB3];exact .inl x⟩
   · exact .inr ⟨i,hi,by rw [XB3];exact .inr x⟩
  ·
   rintro(x | ⟨i,hi,x⟩)
   · exact .inl (.inl x)
   ·
    rw [XB3]at x
    rcases x with x | x
    · exact .inl (.inr ⟨i,hi,x⟩)
    · exact .inr ⟨i,hi,x⟩
theorem XB6:∀ (ns:List Nd),ns≠[]→OkL K ns→∀ (mn mx:Int),0≤mn→(mx<0∨mn≤mx)→XGk l (X7I K l ns mn mx) (fun i j=>∃ k:Nat,mn≤k∧(mx<0∨(k:Int)≤mx)∧X1d (X8A K l ns) k i j)
 | [],h,_,_,_,_,_=>absurd rfl h
 | n::ns,_,hok,mn,mx,hmn,hmx=>by
  unfold OkL at hok
  have hd:=X7J n hok.1
  have hh:X8A K l (n::ns)=M K l n:=by funext i j;rw [X8A]
  rw [hh]
  intro b hb
  unfold X7I
  obtain⟨h1,h2⟩:=hd.rep l mn.toNat b hb
  have hz:(X20 l).length=(rep (X1m K l n) mn.toNat b).length:=by rw [h1];simp [X20]
  have hc:((mn.toNat:Nat):Int)=mn:=by omega
  have:=X9I l hd (mx:=mx) (b:=b) (a:=mn.toNat) (l.length+2) mn.toNat (rep (X1m K l n) mn.toNat b) (X9H (X20 l) (rep (X1m K l n) mn.toNat b)) h1 (by rw [X7G hz];simp [X20]) (by omega) (Nat.le_refl _) (by rw [hc];exact hmx)
   h2 (fun j=>by
    rw [X7H hz,h2]
    constructor
    ·
     rintro(x | x)
     · exact absurd x (XAF l j)
     · exact⟨mn.toNat,Nat.le_refl _,Nat.le_refl _,x⟩
    ·
     rintro⟨q,q1,q2,x⟩
     have:q=mn.toNat:=by omega
     subst this;exact .inr x)
  rw [hc]at this
  refine⟨this.1,fun j=>?_⟩
  rw [this.2]
  constructor
  · rintro⟨q,q1,q2,i,hi,x⟩;exact⟨i,hi,q,by omega,q2,x⟩
  · rintro⟨i,hi,q,q1,q2,x⟩;exact⟨q,by omega,q2,i,hi,x⟩
end
end
end Go.Nfa
namespace Go.Nfa
theorem X6k:∀ {a b:List Nat},a.Pairwise (·<·)→b.Pairwise (·<·)→(∀ x,x∈a↔x∈b)→a=b:=by
 intro a
 induction a with
 | nil =>
  intro b _ _ h
  cases b with
  | nil=>rfl
  | cons y b=>exact absurd ((h y).2 (by simp)) (by simp)
 | cons x a ih =>
  intro b ha hb h
  cases b with
  | nil=>exact absurd ((h x).1 (by simp)) (by simp)
  | cons y b =>
   rw [List.pairwise_cons]at ha hb
   have e:x=y:=by
    have h1:=(h x).1 (by simp)
    have h2:=(h y).2 (by simp)
    rcases List.mem_cons.1 h1 with q | q
    · exact q
    ·
     rcases List.mem_cons.1 h2 with r | r
     · exact r.symm
     ·
      have:=hb.1 x q
      have:=ha.1 y r
      omega
   subst e
   congr 1
   refine ih ha.2 hb.2 fun z=>?_
   constructor
   ·
    intro hz
    rcases List.mem_cons.1 ((h z).1 (by simp [hz]))with q | q
    · subst q;exact absurd (ha.1 z hz) (Nat.lt_irrefl _)
    · exact q
   ·
    intro hz
    rcases List.mem_cons.1 ((h z).2 (by simp [hz]))with q | q
    · subst q;exact absurd (hb.1 z hz) (Nat.lt_irrefl _)
    · exact q
section
variable (K:X47) (l:List Int)
theorem XEX {n:Nd} (h:Ok K n) {i j:Nat}:(∃ t,RC (X0x K n).1 l (X0x K n).2 i t j∧(X0x K n).1[t]?=some .done)↔M K l n i j :=
 XGf.symm.trans (XB4 K l h)
def only (i:Nat):List Bool:=(X20 l).set i true
theorem XCJ {i:Nat} (hi:i≤l.length) (j:Nat):mk (only l i) j↔j=i:=by
 unfold mk only X20
 rw [List.getElem?_set]
 by_cases h:i=j
 · subst h;simp;omega
 ·
  rw [if_neg h,List.getElem?_replicate]
  constructor
  · intro x;split at x<;>simp at x
  · intro x;exact absurd x.symm h
theorem X8B {n:Nd} (h:Ok K n) {i:Nat} (hi:i≤l.length) (j:Nat):mk (X1m K l n (only l i)) j↔M K l n i j:=by
 rw [(X7J K l n h (only l i) (by simp [only,X20])).2 j]
 constructor
 · rintro⟨k,hk,x⟩;rw [XCJ l hi]at hk;subst hk;exact x
 · intro x;exact⟨i,(XCJ l hi i).2 rfl,x⟩
end
theorem XB7 {L:List Sta} {l:List Int} {s₀ i₀ p:Nat} (h0:i₀≤p) (hno:∀ s,plain L s→¬ RC L l s₀ i₀ s p):∀ t q,p≤q→RC L l s₀ i₀ t q→L[t]?≠some .done:=by
 have key:∀ t q,RC L l s₀ i₀ t q→p≤q→q=p:=by
  intro t q h
  induction h with
  | base=>intro hp;omega
  | step hh k ih =>
   intro hp
   rcases X2T k with⟨e,_⟩ | ⟨e,r,set,no,q1,q2,q3⟩
   · subst e;exact ih hp
   ·
    rename_i s i t j
    by_cases hi:p≤i
    ·
     have:=ih hi
     subst this
     exact absurd hh (hno _ (.inl ⟨_,_,_,q1⟩))
    · omega
 intro t q hp h hd
 have:=key t q h hp
 subst this
 exact hno t (.inr hd) h
end Go.Nfa
namespace Go.Nfa
def tg:Sta→List Nat
 | .takes _ _ x=>[x]
 | .splits x y=>[x,y]
 | .begins x=>[x]
 | .ends x=>[x]
 | .done=>[]
def Tgt (L:List Sta):Prop:=∀ σ∈L,∀ t∈tg σ,t<L.length
theorem Tgt.app {L:List Sta} {σ:Sta} (h:Tgt L) (hσ:∀ t∈tg σ,t<L.length+1):Tgt (L++[σ]):=by
 intro τ hτ t ht
 rw [List.length_append,List.length_singleton]
 rcases List.mem_append.1 hτ with q | q
 · have:=h τ q t ht;omega
 · simp at q;subst q;exact hσ t ht
theorem Tgt.set {L:List Sta} {σ:Sta} {i:Nat} (h:Tgt L) (hσ:∀ t∈tg σ,t<L.length):Tgt (L.set i σ):=by
 intro τ hτ t ht
 rw [List.length_set]
 rcases List.mem_or_eq_of_mem_set hτ with q | q
 · exact h τ q t ht
 · subst q;exact hσ t ht
def Tg2 (r:List Sta×Nat):Prop:=Tgt r.1∧r.2<r.1.length
theorem X7K {f:List Sta×Nat→List Sta×Nat} {q:List Sta×Nat→Prop} (hf:∀ r,q r→q (f r)):∀ (c:Nat) (r:List Sta×Nat),q r→q ((List.range c).foldl (fun r _=>f r) r):=by
 intro c
 induction c with
 | zero=>intro r h;simpa using h
 | succ c ih=>intro r h;rw [List.range_succ,List.foldl_append];exact hf _ (ih r h)
section
variable (K:X47)
mutual
/-- What is built leads into itself;nothing gets shorter. -/
theorem X49:∀ (n:Nd) (L:List Sta) (next:Nat),Tgt L→next<L.length→Tg2 (build K n L next)∧L.length≤(build K n L next).1.length
 | .mk kind set no kids mn mx,L,next,h,hn=>by
  have app:∀ σ:Sta,(∀ t∈tg σ,t<L.length+1)→Tg2 (L++[σ],L.length)∧L.length≤(L++[σ]).length:=fun σ hσ=>⟨⟨h.app hσ,by simp⟩,by simp⟩
  rw [build]
  split
  · exact app _ (by simp [tg];omega)
  ·
   split
   · exact app _ (by simp [tg];omega)
   ·
    split
    · exact app _ (by simp [tg];omega)
    ·
     split
     · exact X5U kids L next h hn
     ·
      split
      · exact X9J kids L next h hn
      ·
       split
       · exact X9K kids mn mx L next h hn
       · exact⟨⟨h,hn⟩,Nat.le_refl _⟩
theorem X5U:∀ (ns:List Nd) (L:List Sta) (next:Nat),Tgt L→next<L.length→Tg2 (X0Y K ns L next)∧L.length≤(X0Y K ns L next).1.length
 | [],L,next,h,hn=>by rw [X0Y];exact⟨⟨h,hn⟩,Nat.le_refl _⟩
 | n::ns,L,next,h,hn=>by
  obtain⟨⟨a1,a2⟩,a3⟩:=X5U ns L next h hn
  obtain⟨b1,b2⟩:=X49 n _ _ a1 a2
  rw [X0Y]
  exact⟨b1,by omega⟩
theorem X9J:∀ (ns:List Nd) (L:List Sta) (next:Nat),Tgt L→next<L.length→Tg2 (X1N K ns L next)∧L.length≤(X1N K ns L next).1.length
 | [],L,next,h,hn=>by rw [X1N];exact⟨⟨h,hn⟩,Nat.le_refl _⟩
 | n::ns,L,next,h,hn=>by
  obtain⟨a1,a3⟩:=X49 n L next h hn
  obtain⟨b1,b2⟩:=X6l ns next _ a1 (by omega)
  rw [X1N]
  exact⟨b1,by omega⟩
theorem X6l:∀ (ns:List Nd) (next:Nat) (r:List Sta×Nat),Tg2 r→next<r.1.length→Tg2 (X1C K ns next r)∧r.1.length≤(X1C K ns next r).1.length
 | [],next,r,h,hn=>by rw [X1C];exact⟨h,Nat.le_refl _⟩
 | n::ns,next,r,h,hn=>by
  obtain⟨⟨a1,a2⟩,a3⟩:=X49 n r.1 next h.1 hn
  have h2:=h.2
  obtain⟨b1,b2⟩:=X6l ns next ((build K n r.1 next).1++[.splits r.2 (build K n r.1 next).2],(build K n r.1 next).1.length) ⟨a1.app (by simp [tg];omega),by simp⟩ (by simp;omega)
  rw [X1C]
  refine⟨b1,?_⟩
  rw [List.length_append,List.length_singleton]at b2
  omega
theorem X9K:∀ (ns:List Nd) (mn mx:Int) (L:List Sta) (next:Nat),Tgt L→next<L.length→Tg2 (X15 K ns mn mx L next)∧L.length≤(X15 K ns mn mx L next).1.length
 | [],mn,mx,L,next,h,hn=>by rw [X15];exact⟨⟨h,hn⟩,Nat.le_refl _⟩
 | n::ns,mn,mx,L,next,h,hn=>by
  have hq:∀ (L:List Sta) (next:Nat),Tgt L→next<L.length→Tg2 (build K n L next)∧L.length≤(build K n L next).1.length:=fun L next h hn=>X49 n L next h hn
  rw [X15]
  simp only
  have p0:∀ r0,r0=(if mx<0 then(((build K n (L++[.splits 0 next]) L.length).1.set L.length (.splits (build K n (L++[.splits 0 next]) L.length).2 next)),L.length)else(L,next))→Tg2 r0∧L.length≤r0.1.length:=by
   intro r0 e
   subst e
   split
   ·
    obtain⟨⟨a1,a2⟩,a3⟩:=hq (L++[.splits 0 next]) L.length (h.app (by simp [tg];omega)) (by simp)
    rw [List.length_append,List.length_singleton]at a3
    refine⟨⟨a1.set (by simp [tg];omega),?_⟩,?_⟩<;>rw [List.length_set]<;>omega
   · exact⟨⟨h,hn⟩,Nat.le_refl _⟩
  obtain⟨r0,e0⟩:∃ r0,r0=(if mx<0 then(((build K n (L++[.splits 0 next]) L.length).1.set L.length (.splits (build K n (L++[.splits 0 next]) L.length).2 next)),L.length)else(L,next)):=⟨_,rfl⟩
  have q0:=p0 r0 e0
  rw [← e0]
  have q1:=X7K (f:=fun r=>((build K n r.1 r.2).1++[.splits (build K n r.1 r.2).2 r0.2],(build K n r.1 r.2).1.length)) (q:=fun r=>Tg2 r∧L.length≤r.1.length∧r0.2<r.1.length) (fun r ⟨⟨u1,u2⟩,u3,u4⟩=>by
   obtain⟨⟨a1,a2⟩,a3⟩:=hq r.1 r.2 u1 u2
   refine⟨⟨a1.app (by simp [tg];omega),by simp⟩,?_,?_⟩<;>simp<;>omega) (mx - mn).toNat r0 ⟨q0.1,q0.2,q0.1.2⟩
  have q2:=X7K (f:=fun r=>build K n r.1 r.2) (q:=fun r=>Tg2 r∧L.length≤r.1.length) (fun r ⟨⟨u1,u2⟩,u3⟩=>by
   obtain⟨a1,a3⟩:=hq r.1 r.2 u1 u2
   exact⟨a1,by omega⟩) mn.toNat _ ⟨q1.1,q1.2.1⟩
  exact q2
end
theorem XB8 (n:Nd):Tg2 (X0x K n):=(X49 K n [.done] 0 (by intro σ hσ t ht;simp at hσ;subst hσ;cases ht) (by simp)).1
end
def unm (at_:Nat) (seen:List Int):Nat:=seen.countP fun v=>decide (¬ v=(at_:Int)+1)
theorem XGl {at_:Nat}:∀ {seen:List Int} {x:Nat} {v:Int},seen[x]?=some v→¬ v=(at_:Int)+1→unm at_ (seen.set x ((at_:Int)+1))+1=unm at_ seen:=by
 intro seen
 induction seen with
 | nil=>intro x v h;simp at h
 | cons y ys ih =>
  intro x v h hv
  cases x with
  | zero =>
   simp at h;subst h
   unfold unm
   rw [List.set_cons_zero,List.countP_cons,List.countP_cons]
   simp [hv]
  | succ x =>
   have:=ih (x:=x) (by simpa using h) hv
   unfold unm at this ⊢
   rw [List.set_cons_succ,List.countP_cons,List.countP_cons]
   omega
theorem XCK (at_:Nat) (seen:List Int):unm at_ seen≤seen.length:=List.countP_le_length
def X2x (len at_:Nat):Sta→List Nat
 | .takes _ _ _=>[]
 | .splits x y=>[y,x]
 | .begins x=>if at_=0 then[x]else[]
 | .ends x=>if at_=len then[x]else[]
 | .done=>[]
def XCL (σ:Sta) (x:Nat) (now:List Nat):List Nat:=match σ with
 | .takes _ _ _=>now++[x]
 | .done=>now++[x]
 | _=>now
structure EI (S:List Sta) (len at_:Nat) (X0:Nat→Prop) (s:Nat) (seen0 seen:List Int) (now todo:List Nat):Prop where
 ent:Ent S len at_ (fun x=>X0 x∨x=s) seen now todo
 goal:seen[s]?=some ((at_:Int)+1)∨s∈todo
 mono:∀ t:Nat,seen0[t]?=some ((at_:Int)+1)→seen[t]?=some ((at_:Int)+1)
 le:∀ (t:Nat) v,seen[t]?=some v→v≤(at_:Int)+1
 bd:2*unm at_ seen+todo.length≤2*S.length+1
 nb:now.length+unm at_ seen≤S.length
variable {S:List Sta} {len at_:Nat} {X0:Nat→Prop} {s x:Nat} {seen0 seen:List Int} {now todo td:List Nat}
theorem EI.first (h:Ent S len at_ X0 seen now []) (hs:s<S.length) (hle:∀ (t:Nat) v,seen[t]?=some v→v≤(at_:Int)+1) (hn:now.length+unm at_ seen≤S.length):EI S len at_ X0 s seen seen now [s] :=
 ⟨h.first hs,.inr (by simp),fun _ h=>h,hle,by have:=XCK at_ seen;rw [h.sz]at this;simp;omega,hn⟩
theorem EI.skip (h:EI S len at_ X0 s seen0 seen now (td++[x])) (hx:seen.getD x 0=(at_:Int)+1):EI S len at_ X0 s seen0 seen now td:=by
 have hxl:x<seen.length:=by rw [h.ent.sz];exact h.ent.in_ x (by simp)
 have hx':seen[x]?=some ((at_:Int)+1):=by rw [List.getElem?_eq_getElem hxl];rw [List.getD_eq_getElem?_getD,List.getElem?_eq_getElem hxl]at hx;simpa using hx
 refine⟨h.ent.skip hx',?_,h.mono,h.le,?_,h.nb⟩
 ·
  rcases h.goal with q | q
  · exact .inl q
  ·
   rcases List.mem_append.1 q with q | q
   · exact .inr q
   · simp at q;subst q;exact .inl hx'
 · have:=h.bd;rw [List.length_append,List.length_singleton]at this;omega
theorem EI.go {σ:Sta} {now' todo':List Nat} (h:EI S len at_ X0 s seen0 seen now (td++[x])) (hT:Tgt S) (hx:¬ seen.getD x 0=(at_:Int)+1) (hσ:S[x]?=some σ) (ht:todo'=td++X2x len at_ σ) (hn:now'=XCL σ x now) :
  EI S len at_ X0 s seen0 (seen.set x ((at_:Int)+1)) now' todo'∧2*unm at_ (seen.set x ((at_:Int)+1))+todo'.length<2*unm at_ seen+(td++[x]).length∧unm at_ (seen.set x ((at_:Int)+1))+1=unm at_ seen:=by
 subst ht hn
 have hxl:x<seen.length:=by rw [h.ent.sz];exact h.ent.in_ x (by simp)
 have hxv:∃ v,seen[x]?=some v∧¬ v=(at_:Int)+1:=by
  rw [List.getD_eq_getElem?_getD,List.getElem?_eq_getElem hxl]at hx
  exact⟨_,List.getElem?_eq_getElem hxl,by simpa using hx⟩
 obtain⟨v,v1,v2⟩:=hxv
 have hu:=XGl v1 v2
 have hml:(X2x len at_ σ).length≤2:=by
  cases σ with
  | takes a b c=>exact Nat.zero_le _
  | splits a b=>exact Nat.le_refl _
  | begins a=>show(if at_=0 then[a]else[]).length≤2;split<;>simp
  | ends a=>show(if at_=len then[a]else[]).length≤2;split<;>simp
  | done=>exact Nat.zero_le _
 have hlen:(td++[x]).length=td.length+1:=by simp
 have hbd:=h.bd
 have hnb:=h.nb
 have hnl:(XCL σ x now).length≤now.length+1:=by cases σ<;>simp [XCL]
 have hmore:∀ t,t∈X2x len at_ σ↔Eps S len at_ x t:=by
  intro t
  unfold Eps
  rw [hσ]
  cases σ with
  | takes a b c=>simp [X2x]
  | splits a b =>
   show t∈[b,a]↔_
   simp
   constructor
   ·
    rintro(rfl | rfl)
    · exact⟨_,_,⟨rfl,rfl⟩,.inr rfl⟩
    · exact⟨_,_,⟨rfl,rfl⟩,.inl rfl⟩
   ·
    rintro⟨_,_,⟨rfl,rfl⟩,rfl | rfl⟩
    · exact .inr rfl
    · exact .inl rfl
  | begins a=>show t∈(if at_=0 then[a]else[])↔_;by_cases e:at_=0<;>simp [e]
  | ends a=>show t∈(if at_=len then[a]else[])↔_;by_cases e:at_=len<;>simp [e]
  | done=>simp [X2x]
 have hin:∀ t∈X2x len at_ σ,t<S.length:=by
  intro t ht
  refine hT σ (List.mem_of_getElem? hσ) t ?_
  cases σ with
  | takes a b c=>cases ht
  | splits a b =>
   have ht:t∈[b,a]:=ht
   show t∈[a,b]
   simp at ht ⊢
   exact ht.symm
  | begins a =>
   have ht:t∈(if at_=0 then[a]else[]):=ht
   split at ht
   · exact ht
   · cases ht
  | ends a =>
   have ht:t∈(if at_=len then[a]else[]):=ht
   split at ht
   · exact ht
   · cases ht
  | done=>cases ht
 have hnow:∀ t,t∈XCL σ x now↔t∈now∨(t=x∧plain S x):=by
  intro t
  unfold plain
  rw [hσ]
  cases σ<;>simp [XCL]
 have hne:seen[x]?≠some ((at_:Int)+1):=fun e=>by rw [v1]at e;cases e;exact v2 rfl
 refine⟨⟨h.ent.enter hne _ _ hmore hin hnow,?_,?_,?_,?_,?_⟩,?_,hu⟩
 ·
  rw [X4T _ _ _ _ hxl]
  rcases h.goal with q | q
  ·
   left;split
   · rfl
   · exact q
  ·
   rcases List.mem_append.1 q with q | q
   · exact .inr (List.mem_append.2 (.inl q))
   · simp at q;subst q;left;rw [if_pos rfl]
 ·
  intro t ht
  rw [X4T _ _ _ _ hxl]
  split
  · rfl
  · exact h.mono t ht
 ·
  intro t w hw
  rw [X4T _ _ _ _ hxl]at hw
  split at hw
  · simp at hw;omega
  · exact h.le t w hw
 · rw [List.length_append];omega
 · omega
 · rw [List.length_append];omega
theorem EI.done (h:EI S len at_ X0 s seen0 seen now []):Ent S len at_ (fun x=>X0 x∨x=s) seen now []∧seen[s]?=some ((at_:Int)+1) :=
 ⟨h.ent,by rcases h.goal with q | q;exact q;cases q⟩
end Go.Nfa
namespace Go.Nfa
def Tk (S:List Sta) (l:List Int) (p:Nat) (s x:Nat):Prop:=∃ set no,S[s]?=some (.takes set no x)∧X2k set no (l.getD p 0)=true
structure SI (S:List Sta) (l:List Int) (p:Nat) (now0:List Nat) (i:Nat) (seen:List Int) (nw:List Nat):Prop where
 ent:Ent S l.length (p+1) (fun x=>∃ s∈now0.take i,Tk S l p s x) seen nw []
 all:∀ x,(∃ s∈now0.take i,Tk S l p s x)→seen[x]?=some (((p+1:Nat):Int)+1)
 le:∀ (t:Nat) v,seen[t]?=some v→v≤((p+1:Nat):Int)+1
 nb:nw.length+unm (p+1) seen≤S.length
variable {S:List Sta} {l:List Int} {p i:Nat} {now0 nw:List Nat} {seen:List Int}
theorem SI.first (hsz:seen.length=S.length) (hle:∀ (t:Nat) v,seen[t]?=some v→v≤(p:Int)+1):SI S l p now0 0 seen []:=by
 have e:(fun x=>∃ s∈now0.take 0,Tk S l p s x)=fun _=>False:=by funext x;simp
 refine⟨?_,fun x h=>?_,fun t v h=>?_,?_⟩
 · rw [e];exact Ent.fresh hsz fun s v h=>by have:=hle s v h;omega
 · simp at h
 · have:=hle t v h;omega
 · have:=XCK (p+1) seen;rw [hsz]at this;simpa using this
theorem SI.skip (h:SI S l p now0 i seen nw) {x:Nat} (hi:now0[i]?=some x) (hno:∀ y,¬ Tk S l p x y):SI S l p now0 (i+1) seen nw:=by
 have e:(fun y=>∃ s∈now0.take (i+1),Tk S l p s y)=fun y=>∃ s∈now0.take i,Tk S l p s y:=by
  funext y
  apply propext
  rw [List.take_add_one,hi]
  constructor
  ·
   rintro⟨s,hs,t⟩
   rcases List.mem_append.1 hs with q | q
   · exact⟨s,q,t⟩
   · simp at q;subst q;exact absurd t (hno y)
  · rintro⟨s,hs,t⟩;exact⟨s,List.mem_append.2 (.inl hs),t⟩
 refine⟨by rw [e];exact h.ent,fun y hy=>h.all y ?_,h.le,h.nb⟩
 have:=congrFun e y
 rw [this]at hy;exact hy
theorem SI.enter (h:SI S l p now0 i seen nw) {x y:Nat} {set:List (Int×Int)} {no:Bool} (hi:now0[i]?=some x) (hx:S[x]?=some (.takes set no y)) (hin:X2k set no (l.getD p 0)=true) {seen2:List Int} {nw2:List Nat}
  (he:Ent S l.length (p+1) (fun z=>(∃ s∈now0.take i,Tk S l p s z)∨z=y) seen2 nw2 []) (hy:seen2[y]?=some (((p+1:Nat):Int)+1)) (hm:∀ t:Nat,seen[t]?=some (((p+1:Nat):Int)+1)→seen2[t]?=some (((p+1:Nat):Int)+1))
  (hle:∀ (t:Nat) v,seen2[t]?=some v→v≤((p+1:Nat):Int)+1) (hnb:nw2.length+unm (p+1) seen2≤S.length):SI S l p now0 (i+1) seen2 nw2:=by
 have e:(fun z=>∃ s∈now0.take (i+1),Tk S l p s z)=fun z=>(∃ s∈now0.take i,Tk S l p s z)∨z=y:=by
  funext z
  apply propext
  rw [List.take_add_one,hi]
  constructor
  ·
   rintro⟨s,hs,t⟩
   rcases List.mem_append.1 hs with q | q
   · exact .inl ⟨s,q,t⟩
   ·
    simp at q;subst q
    obtain⟨set',no',t1,_⟩:=t
    rw [hx]at t1;cases t1;exact .inr rfl
  ·
   rintro(⟨s,hs,t⟩ | rfl)
   · exact⟨s,List.mem_append.2 (.inl hs),t⟩
   · exact⟨x,List.mem_append.2 (.inr (by simp)),set,no,hx,hin⟩
 refine⟨by rw [e];exact he,fun z hz=>?_,hle,hnb⟩
 have:=congrFun e z
 rw [this]at hz
 rcases hz with hz | rfl
 · exact hm z (h.all z hz)
 · exact hy
def X3d (S:List Sta) (s:Nat):Bool:=match S[s]? with
 | some .done=>true
 | _=>false
theorem X5V {S:List Sta} {s:Nat}:X3d S s=true↔S[s]?=some .done:=by
 unfold X3d
 split
 · rename_i h;simp [h]
 · rename_i h;simp;exact h
structure LI (S:List Sta) (l:List Int) (s₀ i₀ p:Nat) (seen:List Int) (nw out:List Nat):Prop where
 ent:∃ X,Ent S l.length p X seen nw []
 rc:∀ t:Nat,seen[t]?=some ((p:Int)+1)↔RC S l s₀ i₀ t p
 le:∀ (t:Nat) v,seen[t]?=some v→v≤(p:Int)+1
 nb:nw.length+unm p seen≤S.length
 lo:i₀≤p
 hi:p≤l.length
 srt:out.Pairwise (·<·)
 mem:∀ j,j∈out↔i₀≤j∧j<p∧∃ t,RC S l s₀ i₀ t j∧S[t]?=some .done
variable {s₀ i₀:Nat} {out:List Nat}
theorem LI.first {X0:Nat→Prop} (hX:∀ x,¬ X0 x) (he:Ent S l.length i₀ (fun x=>X0 x∨x=s₀) seen nw []) (hs:seen[s₀]?=some ((i₀:Int)+1)) (hle:∀ (t:Nat) v,seen[t]?=some v→v≤(i₀:Int)+1) (hnb:nw.length+unm i₀ seen≤S.length) (h0:i₀≤l.length):LI S l s₀ i₀ i₀ seen nw []:=by
 have e:(fun x=>X0 x∨x=s₀)=fun x=>x=s₀:=by funext x;simp [hX x]
 rw [e]at he
 refine⟨⟨_,he⟩,fun t=>?_,hle,hnb,Nat.le_refl _,h0,.nil,fun j=>?_⟩
 · rw [he.all (fun s q=>by subst q;exact hs) t,XGg]
 · simp;omega
theorem LI.now_mem (h:LI S l s₀ i₀ p seen nw out) (s:Nat):s∈nw↔RC S l s₀ i₀ s p∧plain S s:=by
 obtain⟨X,he⟩:=h.ent
 rw [he.nw,h.rc]
theorem LI.ended (h:LI S l s₀ i₀ p seen nw out):nw.any (X3d S)=true↔∃ t,RC S l s₀ i₀ t p∧S[t]?=some .done:=by
 rw [List.any_eq_true]
 constructor
 · rintro⟨t,ht,hd⟩;exact⟨t,((h.now_mem t).1 ht).1,X5V.1 hd⟩
 · rintro⟨t,ht,hd⟩;exact⟨t,(h.now_mem t).2 ⟨ht,.inr hd⟩,X5V.2 hd⟩
def X6J (S:List Sta) (p:Nat) (nw out:List Nat):List Nat:=if nw.any (X3d S)=true then out++[p]else out
theorem LI.out_mem (h:LI S l s₀ i₀ p seen nw out) (j:Nat):j∈X6J S p nw out↔i₀≤j∧j<p+1∧∃ t,RC S l s₀ i₀ t j∧S[t]?=some .done:=by
 unfold X6J
 have hlo:=h.lo
 split
 ·
  rename_i he
  rw [List.mem_append,h.mem,List.mem_singleton]
  constructor
  ·
   rintro(⟨a,b,c⟩ | rfl)
   · exact⟨a,by omega,c⟩
   · exact⟨hlo,by omega,h.ended.1 he⟩
  ·
   rintro⟨a,b,c⟩
   by_cases e:j=p
   · exact .inr e
   · exact .inl ⟨a,by omega,c⟩
 ·
  rename_i he
  rw [h.mem]
  constructor
  · rintro⟨a,b,c⟩;exact⟨a,by omega,c⟩
  ·
   rintro⟨a,b,c⟩
   by_cases e:j=p
   · subst e;exact absurd (h.ended.2 c) he
   · exact⟨a,by omega,c⟩
theorem LI.out_srt (h:LI S l s₀ i₀ p seen nw out):(X6J S p nw out).Pairwise (·<·):=by
 unfold X6J
 split
 ·
  rw [List.pairwise_append]
  refine⟨h.srt,by simp,fun a ha b hb=>?_⟩
  simp at hb;subst hb
  exact((h.mem a).1 ha).2.1
 · exact h.srt
theorem LI.step (h:LI S l s₀ i₀ p seen nw out) (hp:p<l.length) {seen2:List Int} {nw2:List Nat} (hs:SI S l p nw nw.length seen2 nw2):LI S l s₀ i₀ (p+1) seen2 nw2 (X6J S p nw out):=by
 have hlo:=h.lo
 have eT:(fun x=>∃ s∈nw.take nw.length,Tk S l p s x)=XGh S l s₀ i₀ p:=by
  funext x
  apply propext
  rw [List.take_length]
  have hg:l[p]?=some (l.getD p 0):=by rw [List.getElem?_eq_getElem hp,List.getD_eq_getElem?_getD,List.getElem?_eq_getElem hp];rfl
  constructor
  ·
   rintro⟨s,hm,set,no,q1,q2⟩
   exact⟨s,_,set,no,((h.now_mem s).1 hm).1,q1,hg,q2⟩
  ·
   rintro⟨s,r,set,no,q1,q2,q3,q4⟩
   rw [hg]at q3;cases q3
   exact⟨s,(h.now_mem s).2 ⟨q1,.inl ⟨_,_,_,q2⟩⟩,set,no,q2,q4⟩
 have he:=hs.ent
 have hall:=hs.all
 refine⟨⟨_,he⟩,fun t=>?_,hs.le,hs.nb,by omega,hp,h.out_srt,h.out_mem⟩
 rw [he.all hall t,eT,XGi hlo]
theorem LI.fin_end (h:LI S l s₀ i₀ p seen nw out) (hp:p=l.length) (j:Nat):j∈X6J S p nw out↔∃ t,RC S l s₀ i₀ t j∧S[t]?=some .done:=by
 rw [h.out_mem]
 constructor
 · rintro⟨_,_,c⟩;exact c
 ·
  rintro⟨t,a,b⟩
  have h0:=h.lo
  have:=a.len (by omega)
  exact⟨a.le,by omega,t,a,b⟩
theorem LI.fin_none (h:LI S l s₀ i₀ p seen [] out) (j:Nat):j∈out↔∃ t,RC S l s₀ i₀ t j∧S[t]?=some .done:=by
 rw [h.mem]
 constructor
 · rintro⟨_,_,c⟩;exact c
 ·
  rintro⟨t,a,b⟩
  refine⟨a.le,?_,t,a,b⟩
  rcases Nat.lt_or_ge j p with q | q
  · exact q
  · exact absurd b (XB7 h.lo (fun s hs hr=>by have:=(h.now_mem s).2 ⟨hr,hs⟩;cases this) t j q a)
end Go.Nfa

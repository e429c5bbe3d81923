/-
  What is proved here: a region in which a box is not turned: its cells may be looked at ahead of the calls or behind them  stacks; rows that are built as objects; an object's place that is used anew (part RK). signs of texts, parts of texts, remainders and shifts of numbers that are not known (part RL). No conditions but those that the theorems state.
-/
import Derived.Test.YtiebldaihnbkmaaGreatDoorRI
set_option linter.unusedVariables false
set_option linter.unusedSimpArgs false
namespace Go.Vai
noncomputable section
variable {P:Program} {ov:Ov} {C:Cx0}
def XDv (b o:Nat):D:=.lit (.pointer (some ⟨b,o,none⟩))
def lo1 (j b:Nat):D→D
 | .loc i o=>bif Nat.beq i j then XDv b o else .loc i o
 | .row i o n c=>bif Nat.beq i j then .any else .row i o n c
 | d=>d
def lo2 (j b:Nat):D→D
 | .agg ds=>.agg (ds.map (lo1 j b))
 | d=>lo1 j b d
def loD (j b:Nat):D→D
 | .tup ds=>.tup (ds.map (lo2 j b))
 | d=>lo2 j b d
def loE (j b:Nat) (E:X19):X19:=E.map fun p=>(p.1,loD j b p.2)
def loOb (j b:Nat):Ob→Ob
 | .box cs=>.box (cs.map (lo1 j b))
 | o=>o
theorem XIz {j b:Nat}:∀ {E:X19} {t:Nat} {d:D},lk (loE j b E) t=some d→∃ x,lk E t=some x∧d=loD j b x:=by
 intro E
 induction E with
 | nil=>intro t d h;cases h
 | cons p E ih =>
  obtain⟨u,x⟩:=p
  intro t d h
  rcases X1g (r:=loE j b E) h with⟨rfl,rfl⟩ | ⟨h1,h2⟩
  · exact⟨x,X0q ..,rfl⟩
  ·
   obtain⟨y,q1,q2⟩:=ih h2
   exact⟨y,by rw [X0X _ _ h1];exact q1,q2⟩
section
variable {M M2:Nat→Prop} {g g2:Gh} {a:AH} {j b k:Nat} (hj:g[j]?=some (some (b,k))) (hm:∀ x,M2 x→M x) (hg:∀ (i:Nat),i≠j→∀ x,g[i]?=some x→g2[i]?=some x)
include hj hm hg
theorem DL.lo {d:D} {v:Value} (h:DL M g a d v):DL M2 g2 a (lo1 j b d) v:=by
 have K:=X1e.refl (fun _=>False) a
 cases d with
 | loc i o =>
  obtain⟨b',k',e1,e2⟩:=h
  simp only [lo1]
  cases e:Nat.beq i j with
  | true =>
   have:i=j:=by simpa using e
   subst this
   rw [hj]at e1;cases e1
   simp only [cond_true]
   subst e2
   exact CR.lit rfl
  | false=>exact⟨b',k',hg i (by rintro rfl;simp at e) _ e1,e2⟩
 | row i o n c =>
  simp only [lo1]
  cases e:Nat.beq i j with
  | true=>simp only [cond_true];trivial
  | false =>
   have hne:i≠j:=by rintro rfl;simp at e
   rcases h with⟨h1,h2⟩ | ⟨b',k',h1,h2⟩
   · exact .inl ⟨hg i hne _ h1,h2⟩
   · exact .inr ⟨b',k',hg i hne _ h1,h2⟩
 | ep e n cs o=>obtain⟨b',i,h1,h2⟩:=h;exact⟨b',i,h1,h2.mono K (fun _ f=>f.elim) fun k _ m=>hm k m⟩
 | any=>trivial
 | cmp=>exact h
 | agg ds=>cases h
 | tup ds=>cases h
 | _=>exact CR.mono h K (fun _ f=>f.elim) fun k _ m=>hm k m
theorem D1.lo {d:D} {v:Value} (h:D1 M g a d v):D1 M2 g2 a (lo2 j b d) v:=by
 rcases X3Q d with⟨ds,rfl⟩ | e
 ·
  obtain⟨vs,e1,e2⟩:=h
  refine⟨vs,e1,?_⟩
  clear e1
  induction e2 with
  | nil=>exact .nil
  | cons h t ih=>exact .cons (DL.lo hj hm hg h) ih
 ·
  rw [e]at h
  have:lo2 j b d=lo1 j b d:=by
   cases d with
   | agg ds=>cases h
   | _=>rfl
  rw [this]
  exact(DL.lo hj hm hg h).d1
theorem DR.lo {d:D} {v:Value} (h:DR M g a d v):DR M2 g2 a (loD j b d) v:=by
 rcases X4C d with⟨ds,rfl⟩ | e
 ·
  obtain⟨vs,e1,e2⟩:=h
  refine⟨vs,e1,?_⟩
  clear e1
  induction e2 with
  | nil=>exact .nil
  | cons h t ih=>exact .cons (D1.lo hj hm hg h) ih
 ·
  rw [e]at h
  have:loD j b d=lo2 j b d:=by
   cases d with
   | tup ds=>cases h
   | _=>rfl
  rw [this]
  exact(D1.lo hj hm hg h).dr
end
def X9e (M1:Nat→Prop) (a1:AH) (g1:Gh) (b:Nat) (cs:List D):Prop:=∃ k vs,a1.blk b=some ⟨vs,k,true,0⟩∧k ∉ g1.cls∧M1 k∧F2 (CR (MM M1 g1) a1) cs vs
theorem X9e.at {nt:Nat} {M1:Nat→Prop} {a1:AH} {g1:Gh} {bx:Nat→Prop} {b:Nat} {cs:List D} {σ:SD} {g:Gh} {s:Env} {a:AH} (h:X9e M1 a1 g1 b cs) (S:SR ⟨nt,M1,a1,g1,bx⟩ σ g s a):∃ k vs,a1.blk b=some ⟨vs,k,true,0⟩∧a.blk b=some ⟨vs,k,true,0⟩∧k ∉ g1.cls∧M1 k∧F2 (CR (MM M1 g) a) cs vs:=by
 obtain⟨k,vs,h1,h2,h3,h4⟩:=h
 refine⟨k,vs,h1,S.kp.blk _ _ h1 h2,h2,h3,h4.mono fun d v r=>r.mono S.kp (fun k m=>.inr m) fun k hk m=>?_⟩
 rcases m with m | m
 · exact .inl m
 ·
  rcases(S.nm k m).2.2 with q | q
  · exact .inr q
  ·
   have q:a1.next≤k:=q
   omega
theorem OD.ldF {nt:Nat} {M1:Nat→Prop} {a1:AH} {g1:Gh} {bx:Nat→Prop} {b o:Nat} {cs:List D} {ops:Array Oper} {dst:Option Nat} {ty:TypeId} {pos:String} {after:Array Edge} {l:List Oper} {E:X19} {L:List Ob} {q:SD→Prop} {t:TypeId} {x:Operand} {d:D}
  (hk:X9e M1 a1 g1 b cs) (hx:zd E x=some (XDv b o)) (hd:X6M P t cs o=some d)
  (h:OD P ov ⟨nt,M1,a1,g1,bx⟩ ops l ⟨pt nt E dst d,L⟩ q):OD P ov ⟨nt,M1,a1,g1,bx⟩ ops (⟨dst,.load t x,ty,pos,after,none⟩::l) ⟨E,L⟩ q:=by
 refine OD.plain (fun g s a S=>?_) h
 obtain⟨vx,q1,q2⟩:=X0M S hx
 have q2:=X3v q2
 subst q2
 obtain⟨k,vs,h1,h2,h3,h4,h5⟩:=hk.at S
 obtain⟨v,r1,r2⟩:=X2W (g:=g) hd h2 (h5.mono fun _ _ r=>r.dl)
 refine⟨v,?_,r2⟩
 simp only [X0c,q1]
 exact X0O r1
def FrzD (P:Program) (ops:Array Oper) (b:Nat) (cs:List D) (E:X19):List Nat→Prop
 | []=>True
 | i::l=>(∃ t x,XH4 ops i=some (t,x)∧(lk E x=some (.tup [])∨∃ o d,lk E x=some (XDv b o)∧X6M P t cs o=some d))∧FrzD P ops b cs E l
def BkD (b:Nat) (E:X19):List (Nat×Nat)→Prop
 | []=>True
 | (t,o)::l=>lk E t=some (XDv b o)∧BkD b E l
def bkE (j:Nat):List (Nat×Nat)→X19→X19
 | [],E=>E
 | (t,o)::l,E=>setv t (.loc j o) (bkE j l E)
theorem XJ0 {ops:Array Oper} {nt:Nat} {M1:Nat→Prop} {a1:AH} {g1:Gh} {bx:Nat→Prop} {b:Nat} {cs:List D} {σ:SD} {g:Gh} {s:Env} {a:AH} (h:X9e M1 a1 g1 b cs) (S:SR ⟨nt,M1,a1,g1,bx⟩ σ g s a):∀ {fz:List Nat},FrzD P ops b cs σ.E fz→Frz P ops (fun a'=>X1e (·∈g1.cls) a1 a') fz s:=by
 intro fz
 induction fz with
 | nil=>intro _ i hi;cases hi
 | cons y l ih =>
  intro hf i hi t x e
  obtain⟨⟨t',x',f1,f2⟩,f3⟩:=hf
  rcases List.mem_cons.1 hi with rfl | hi
  ·
   rw [f1]at e;cases e
   rcases f2 with f2 | ⟨o,d,f2,f4⟩
   ·
    left
    obtain⟨vs,e1,e2⟩:=S.env _ _ f2
    cases e2
    exact e1
   ·
    right
    have hv:=X3v (S.env _ _ f2)
    obtain⟨k,vs,h1,h2,h3,h4⟩:=h
    obtain⟨v,r1,r2⟩:=X2W (g:=g1) f4 h1 (h4.mono fun _ _ r=>r.dl)
    refine⟨v,fun a' K=>?_⟩
    have hb:=K.blk _ _ h1 h2
    rw [hv,← r1]
    simp only [X5c,AH.rdL,AH.rd,h1,hb]
  · exact ih f3 i hi t x e
theorem SR.lock {E:X19} {L:List Ob} {g:Gh} {s:Env} {a:AH} {j:Nat} {cs:List D} (S:SR C ⟨E,L⟩ g s a) (hL:L[j]?=some (.box cs)) (hcl:cs.all XF2=true):∃ M1 b k,g[j]?=some (some (b,k))∧(∀ x,MM M1 (g.set j none) x↔MM C.M g x)∧(∀ x,M1 x↔C.M x∨x=k)∧X9e M1 a (g.set j none) b cs ∧
  SR ⟨C.nt,M1,a,g.set j none,fun i=>∃ cs,L[i]?=some (.box cs)⟩ ⟨loE j b E,(L.map (loOb j b)).set j .dead⟩ (g.set j none) s a:=by
 have hlen:g.length=L.length:=S.len
 have hjL:=(List.getElem?_eq_some_iff.1 hL).1
 have hjg:j<g.length:=by omega
 obtain⟨b,k,vs,e1,p1,p2⟩:=S.obj j _ _ (List.getElem?_eq_getElem hjg) hL
 have hj:g[j]?=some (some (b,k)):=by rw [List.getElem?_eq_getElem hjg,e1]
 have hkc:k∈g.cls:=Gh.mem_cls.2 ⟨j,b,hj⟩
 have hin:∀ x,x∈Gh.cls (g.set j none)↔x∈g.cls∧x≠k:=by
  intro x
  constructor
  ·
   intro h
   obtain⟨i,b',e⟩:=Gh.mem_cls.1 h
   by_cases hi:i=j
   · subst hi;rw [List.getElem?_set_self hjg]at e;cases e
   ·
    rw [List.getElem?_set_ne (fun q=>hi q.symm)]at e
    refine⟨Gh.mem_cls.2 ⟨i,b',e⟩,?_⟩
    rintro rfl
    exact hi (Gh.inj S.nd e hj)
  ·
   rintro⟨h,hne⟩
   obtain⟨i,b',e⟩:=Gh.mem_cls.1 h
   have hi:i≠j:=by rintro rfl;rw [hj]at e;cases e;exact hne rfl
   exact Gh.mem_cls.2 ⟨i,b',by rw [List.getElem?_set_ne (fun q=>hi q.symm)];exact e⟩
 let M1:Nat→Prop:=fun x=>C.M x∨x=k
 have hmm:∀ x,MM M1 (g.set j none) x↔MM C.M g x:=by
  intro x
  constructor
  ·
   rintro((m | rfl) | m)
   · exact .inl m
   · exact .inr hkc
   · exact .inr ((hin x).1 m).1
  ·
   rintro(m | m)
   · exact .inl (.inl m)
   ·
    by_cases e:x=k
    · exact .inl (.inr e)
    · exact .inr ((hin x).2 ⟨m,e⟩)
 have hgo:∀ (i:Nat),i≠j→∀ x,g[i]?=some x→(g.set j none)[i]?=some x:=fun i hi x e=>by rw [List.getElem?_set_ne (fun q=>hi q.symm)];exact e
 have nd1:(Gh.cls (g.set j none)).Nodup:=by
  refine Gh.nodup_of fun i i' b1 b2 x h1 h2=>?_
  have n1:i≠j:=by rintro rfl;rw [List.getElem?_set_self hjg]at h1;cases h1
  have n2:i'≠j:=by rintro rfl;rw [List.getElem?_set_self hjg]at h2;cases h2
  rw [List.getElem?_set_ne (fun q=>n1 q.symm)]at h1
  rw [List.getElem?_set_ne (fun q=>n2 q.symm)]at h2
  exact Gh.inj S.nd h1 h2
 refine⟨M1,b,k,hj,hmm,fun x=>Iff.rfl,⟨k,vs,p1,fun h=>((hin k).1 h).2 rfl,.inr rfl,(F2.cr p2 hcl).mono fun d v r=>r.mono (X1e.refl (fun _=>False) a) (fun _ f=>f.elim) fun x _ m=>(hmm x).1 m⟩,?_⟩
 refine⟨S.ok,fun x m=>S.mmlt ((hmm x).1 (.inl m)),fun t d e=>?_,by simp [hlen],Nat.le_refl _,fun i x o e2 e3=>?_,nd1,fun x hx=>⟨?_,(S.nm x ((hin x).1 hx).1).2.1,.inl hx⟩,X1e.refl _ a,S.ok,fun i b' k' cs' e2 _=>e2,fun i cs' hi e2=>?_⟩
 ·
  obtain⟨y,hy,rfl⟩:=XIz e
  exact DR.lo hj (fun x m=>(hmm x).1 m) hgo (S.env t y hy)
 ·
  by_cases hi:i=j
  ·
   subst hi
   rw [List.getElem?_set_self hjg]at e2
   rw [List.getElem?_set_self (by simpa using hjL)]at e3
   cases e2;cases e3
   rfl
  ·
   rw [List.getElem?_set_ne (fun q=>hi q.symm)]at e2
   rw [List.getElem?_set_ne (fun q=>hi q.symm),List.getElem?_map]at e3
   obtain⟨o',ho',rfl⟩:=Option.map_eq_some_iff.1 e3
   have O:=S.obj i x o' e2 ho'
   cases o' with
   | box cs1 =>
    obtain⟨b1,k1,vs1,rfl,r1,r2⟩:=O
    refine⟨b1,k1,vs1,rfl,r1,?_⟩
    clear r1 ho' e3
    induction r2 with
    | nil=>exact .nil
    | cons h t ih=>exact .cons (DL.lo hj (fun x m=>(hmm x).1 m) hgo h) ih
   | row e n cs1 =>
    obtain⟨hl,O⟩:=O
    refine⟨hl,?_⟩
    rcases O with O | ⟨b1,k1,vs1,rfl,r1,r2⟩
    · exact .inl O
    · exact .inr ⟨b1,k1,vs1,rfl,r1,r2.mono fun _ _ r=>r.mono (X1e.refl (fun _=>False) a) (fun _ f=>f.elim) fun x _ m=>(hmm x).1 m⟩
   | dead=>exact O
 ·
  rintro(m | rfl)
  · exact(S.nm x ((hin x).1 hx).1).1 m
  · exact((hin x).1 hx).2 rfl
 ·
  by_cases h:i=j
  ·
   subst h
   rw [List.getElem?_set_self (by simpa using hjL)]at e2;cases e2
  ·
   rw [List.getElem?_set_ne (fun q=>h q.symm),List.getElem?_map]at e2
   obtain⟨o',ho',he⟩:=Option.map_eq_some_iff.1 e2
   cases o' with
   | box cs1=>exact⟨cs1,ho'⟩
   | row e n cs1=>cases he
   | dead=>cases he
theorem bk_ok {M:Nat→Prop} {g2:Gh} {a2:AH} {s2:Env} {j b k:Nat} (hj:g2[j]?=some (some (b,k))) {E2:X19} (hE:∀ t d,lk E2 t=some d→DR M g2 a2 d (s2 t)):∀ {bk:List (Nat×Nat)},(∀ p∈bk,lk E2 p.1=some (XDv b p.2))→∀ t d,lk (bkE j bk E2) t=some d→DR M g2 a2 d (s2 t):=by
 intro bk
 induction bk with
 | nil=>intro _ t d e;exact hE t d e
 | cons p bk ih =>
  obtain⟨u,o⟩:=p
  intro hb t d e
  have ih:=ih fun p hp=>hb p (by simp [hp])
  have h0:=hb (u,o) (by simp)
  have hv:=X3v (hE _ _ h0)
  have key:∀ (E:X19),lk (Vai.setv u (.loc j o) E) t=some d→lk E t=some d∨(t=u∧d=.loc j o):=by
   intro E
   induction E with
   | nil=>intro h;cases h
   | cons q E ih2 =>
    obtain⟨w,z⟩:=q
    intro h
    simp only [Vai.setv]at h
    cases hw:Nat.beq w u with
    | true =>
     rw [hw]at h
     simp only [cond_true]at h
     have:w=u:=by simpa using hw
     subst this
     rcases X1g h with⟨rfl,rfl⟩ | ⟨h1,h2⟩
     · exact .inr ⟨rfl,rfl⟩
     ·
      rcases ih2 h2 with q | q
      · exact .inl (by rw [X0X _ _ h1];exact q)
      · exact .inr q
    | false =>
     rw [hw]at h
     simp only [cond_false]at h
     rcases X1g h with⟨rfl,rfl⟩ | ⟨h1,h2⟩
     · exact .inl (X0q ..)
     ·
      rcases ih2 h2 with q | q
      · exact .inl (by rw [X0X _ _ h1];exact q)
      · exact .inr q
  rcases key _ e with e | ⟨rfl,rfl⟩
  · exact ih t d e
  · exact⟨b,k,hj,hv⟩
theorem BkD.mem {b:Nat} {E:X19}:∀ {bk:List (Nat×Nat)},BkD b E bk→∀ p∈bk,lk E p.1=some (XDv b p.2):=by
 intro bk
 induction bk with
 | nil=>intro _ p hp;cases hp
 | cons q l ih =>
  obtain⟨t,o⟩:=q
  intro h p hp
  rcases List.mem_cons.1 hp with rfl | hp
  · exact h.1
  · exact ih h.2 p hp
theorem SR.unlock {E E2:X19} {L L2:List Ob} {g g2:Gh} {s s2:Env} {a a2:AH} {j b k:Nat} {cs:List D} {M1:Nat→Prop} {bk:List (Nat×Nat)} (S:SR C ⟨E,L⟩ g s a) (hL:L[j]?=some (.box cs)) (hj:g[j]?=some (some (b,k))) (hM:∀ x,M1 x↔C.M x∨x=k)
  (hk:X9e M1 a (g.set j none) b cs) (S1:SR ⟨C.nt,M1,a,g.set j none,fun i=>∃ cs,L[i]?=some (.box cs)⟩ ⟨E2,L2⟩ g2 s2 a2) (hL2:L2[j]?=some .dead) (hb:BkD b (X2K j E2) bk):SR C ⟨bkE j bk (X2K j E2),(X1p j L2).set j (.box cs)⟩ (g2.set j (some (b,k))) s2 a2:=by
 have hlen2:g2.length=L2.length:=S1.len
 have hjL:=(List.getElem?_eq_some_iff.1 hL).1
 have hjg:=(List.getElem?_eq_some_iff.1 hj).1
 have hj2:=(List.getElem?_eq_some_iff.1 hL2).1
 have hjg2:j<g2.length:=by omega
 have hkc:k∈g.cls:=Gh.mem_cls.2 ⟨j,b,hj⟩
 have hnone:g2[j]?=some none:=by
  have:=S1.obj j _ _ (List.getElem?_eq_getElem hjg2) hL2
  rw [List.getElem?_eq_getElem hjg2];exact congrArg some this
 have hkn:k ∉ g2.cls:=fun h=>(S1.nm k h).1 ((hM k).2 (.inr rfl))
 have hin:∀ x,x∈Gh.cls (g2.set j (some (b,k)))↔x∈g2.cls∨x=k:=by
  intro x
  constructor
  ·
   intro h
   obtain⟨i,b',e⟩:=Gh.mem_cls.1 h
   by_cases hi:i=j
   · subst hi;rw [List.getElem?_set_self hjg2]at e;cases e;exact .inr rfl
   ·
    rw [List.getElem?_set_ne (fun q=>hi q.symm)]at e
    exact .inl (Gh.mem_cls.2 ⟨i,b',e⟩)
  ·
   rintro(h | rfl)
   ·
    obtain⟨i,b',e⟩:=Gh.mem_cls.1 h
    have hi:i≠j:=by rintro rfl;rw [hnone]at e;cases e
    exact Gh.mem_cls.2 ⟨i,b',by rw [List.getElem?_set_ne (fun q=>hi q.symm)];exact e⟩
   · exact Gh.mem_cls.2 ⟨j,b,List.getElem?_set_self hjg2⟩
 have hmm:∀ x,MM C.M (g2.set j (some (b,k))) x↔MM M1 g2 x:=by
  intro x
  constructor
  ·
   rintro(m | m)
   · exact .inl ((hM x).2 (.inl m))
   ·
    rcases(hin x).1 m with m | rfl
    · exact .inr m
    · exact .inl ((hM x).2 (.inr rfl))
  ·
   rintro(m | m)
   ·
    rcases(hM x).1 m with m | rfl
    · exact .inl m
    · exact .inr ((hin x).2 (.inr rfl))
   · exact .inr ((hin x).2 (.inl m))
 have hgo:∀ (i:Nat) x,i≠j→g2[i]?=some x→(g2.set j (some (b,k)))[i]?=some x:=fun i x hi e=>by rw [List.getElem?_set_ne (fun q=>hi q.symm)];exact e
 have up:∀ (i b' k':Nat),g2[i]?=some (some (b',k'))→(g2.set j (some (b,k)))[i]?=some (some (b',k')):=fun i b' k' e=>hgo i _ (by rintro rfl;rw [hnone]at e;cases e) e
 have K0:=X1e.refl (fun _=>False) a2
 have hnm:∀ x,x∈g.cls→x∈C.g0.cls∨C.a0.next≤x:=fun x h=>(S.nm x h).2.2
 have hin0:∀ x,x∈Gh.cls (g.set j none)→x∈g.cls:=fun x h=>by
  obtain⟨i,b',e⟩:=Gh.mem_cls.1 h
  by_cases hi:i=j
  · subst hi;rw [List.getElem?_set_self hjg]at e;cases e
  · rw [List.getElem?_set_ne (fun q=>hi q.symm)]at e;exact Gh.mem_cls.2 ⟨i,b',e⟩
 have hw:∀ x,(fun _=>False) x→MM M1 g2 x:=fun _ f=>f.elim
 have hm2:∀ x,x<a2.next→MM C.M (g2.set j (some (b,k))) x→MM M1 g2 x:=fun x _ m=>(hmm x).1 m
 obtain⟨k',vs,q1,q2,q3,q4,q5⟩:=hk.at S1
 have hkk:k'=k:=by
  obtain⟨b1,k1,vs1,e1,p1,_⟩:=S.obj j _ _ hj hL
  cases e1
  rw [q1]at p1
  cases p1;rfl
 subst hkk
 refine⟨S1.ok,S.old,bk_ok (k:=k') (List.getElem?_set_self hjg2) (fun t d e=>?_) hb.mem,by simp [X1p,hlen2],?_,fun i x o e1 e2=>?_,?_,fun x hx=>?_,?_,S.ok0,fun i b1 k1 cs1 e1 e2=>?_,fun i cs1 hi e2=>?_⟩
 ·
  obtain⟨y,hy,rfl⟩:=X7a e
  exact DR.monoR K0 hw hm2 (X7b (noD j y)) (XAb j (S1.env t y hy))
 ·
  have h1:C.g0.length≤g.length:=S.pl
  have h2:(g.set j none).length≤g2.length:=S1.pl
  simp only [List.length_set]at h2 ⊢;omega
 ·
  by_cases hi:i=j
  ·
   subst hi
   rw [List.getElem?_set_self hjg2]at e1
   rw [List.getElem?_set_self (by simpa[X1p]using hj2)]at e2
   cases e1;cases e2
   exact⟨b,k',vs,rfl,q2,q5.mono fun _ _ r=>(r.mono K0 hw hm2).dl⟩
  ·
   rw [List.getElem?_set_ne (fun q=>hi q.symm)]at e1
   rw [List.getElem?_set_ne (fun q=>hi q.symm)]at e2
   unfold X1p at e2
   rw [List.getElem?_map]at e2
   obtain⟨o',ho',rfl⟩:=Option.map_eq_some_iff.1 e2
   have O:=S1.obj i x o' e1 ho'
   cases o' with
   | box cs1 =>
    obtain⟨b1,k1,vs1,rfl,r1,r2⟩:=O
    refine⟨b1,k1,vs1,rfl,r1,?_⟩
    clear r1 ho' e2
    induction r2 with
    | nil=>exact .nil
    | cons h t ih=>exact .cons (DL.monoR K0 hw hm2 (X7b (no1 j _)) (X7Z j h).1) ih
   | row e n cs1 =>
    obtain⟨hl,O⟩:=O
    refine⟨hl,?_⟩
    rcases O with O | ⟨b1,k1,vs1,rfl,r1,r2⟩
    · exact .inl O
    · exact .inr ⟨b1,k1,vs1,rfl,r1,r2.mono fun _ _ r=>r.mono K0 hw hm2⟩
   | dead=>exact O
 ·
  refine XFr g2 j S1.nd fun b1 k1 e i b2 hi e2=>?_
  cases e
  exact hkn (Gh.mem_cls.2 ⟨i,b2,e2⟩)
 ·
  have n0:C.a0.next≤a.next:=S.kp.next
  have n1:a.next≤a2.next:=S1.kp.next
  rcases(hin x).1 hx with hx | rfl
  ·
   obtain⟨r1,r2,r3⟩:=S1.nm x hx
   refine⟨fun m=>r1 ((hM x).2 (.inl m)),r2,?_⟩
   rcases r3 with r3 | r3
   · exact hnm x (hin0 x r3)
   ·
    have r3:a.next≤x:=r3
    exact .inr (by omega)
  ·
   obtain⟨r1,r2,r3⟩:=S.nm x hkc
   exact⟨r1,by omega,r3⟩
 ·
  refine S.kp.trans S1.kp fun b1 B1 e1 e2=>?_
  rcases hnm _ (hin0 _ e2)with h | h
  · exact h
  ·
   have:=(S.ok0 b1 B1 e1).2
   omega
 ·
  by_cases hi:i=j
  ·
   subst hi
   have:=S.pre i b1 k1 cs e1 hL
   rw [hj]at this;cases this
   exact List.getElem?_set_self hjg2
  ·
   rw [List.getElem?_set_ne (fun q=>hi q.symm)]at e2
   unfold X1p at e2
   rw [List.getElem?_map]at e2
   obtain⟨o',ho',he⟩:=Option.map_eq_some_iff.1 e2
   cases o' with
   | row e n cs1=>cases he
   | dead=>cases he
   | box cs2 =>
   have hig:i<(g.set j none).length:=by have:=(List.getElem?_eq_some_iff.1 e1).1;have:=S.pl;simp;omega
   obtain⟨cs3,h3⟩:=S1.pk i cs2 hig ho'
   have:=S.pre i b1 k1 cs3 e1 h3
   exact hgo i _ hi (S1.pre i b1 k1 cs2 (by rw [List.getElem?_set_ne (fun q=>hi q.symm)];exact this) ho')
 ·
  by_cases hij:i=j
  · subst hij;exact S.pk i cs hi hL
  ·
   rw [List.getElem?_set_ne (fun q=>hij q.symm)]at e2
   unfold X1p at e2
   rw [List.getElem?_map]at e2
   obtain⟨o',ho',he⟩:=Option.map_eq_some_iff.1 e2
   cases o' with
   | row e n cs1=>cases he
   | dead=>cases he
   | box cs2 =>
   obtain⟨cs3,h3⟩:=S1.pk i cs2 (by have:=S.pl;simp;omega) ho'
   exact S.pk i cs3 hi h3
theorem CD.drawnF (fz:List Nat) (j:Nat) (bk:List (Nat×Nat)) {E:X19} {L:List Ob} {cs:List D} {id:Nat} {ops:Array Oper} {Q:X50} (hL:L[j]?=some (.box cs)) (hcl:cs.all XF2=true) (ht:XAT fz C.nt ops=true)
  (h:∀ (M1:Nat→Prop) (a1:AH) (g1:Gh) (bx1:Nat→Prop) (b:Nat),g1.length=L.length→X9e M1 a1 g1 b cs→OD P ov ⟨C.nt,M1,a1,g1,bx1⟩ ops ops.toList ⟨loE j b E,(L.map (loOb j b)).set j .dead⟩ fun σ' =>
   XD9 (X9W ops) σ'.E=true∧FrzD P ops b cs σ'.E fz∧BkD b (X2K j σ'.E) bk∧σ'.L[j]?=some .dead∧Q.n ⟨bkE j bk (X2K j σ'.E),(X1p j σ'.L).set j (.box cs)⟩):CD P ov C (.region id ops true) ⟨E,L⟩ Q:=by
 intro g s a S
 obtain⟨M1,b,k,hj,hmm,hM,hk,S1⟩:=S.lock hL hcl
 refine Cx.drawn ht ((h M1 a _ _ b (by have:g.length=L.length:=S.len;simp [this]) hk _ s a S1).mono fun s' a' k'=>?_)
 obtain⟨σ',g',S',k1,k2,k3,k4,k5⟩:=k'
 refine⟨fun d hd=>?_,XJ0 hk S' k2,_,_,S.unlock hL hj hM hk S' k4 k3,k5⟩
 have:=List.all_eq_true.1 k1 d hd
 split at this
 · rename_i x hx;exact XFs (S'.env d x hx) this
 · cases this
end
end Go.Vai
namespace Go.Vai
noncomputable section
variable {P:Program} {ov:Ov} {C:Cx0}
variable {ops:Array Oper} {dst:Option Nat} {ty:TypeId} {pos:String} {after:Array Edge} {l:List Oper} {E:X19} {L:List Ob} {q:SD→Prop} {α:Type}
theorem OD.bslR {t:TypeId} {len:Nat} {parts:Array (Nat×Operand)} {ps:List (Nat×D)} {e:Nat} {cs:List D} (hp:zdP E parts.toList=some ps) (hr:X7Y P t len ps=some (e,cs))
  (h:OD P ov C ops l ⟨pt C.nt E dst (.row L.length 0 len len),L++[.row e len cs]⟩ q):OD P ov C ops (⟨dst,.buildSlice t len parts,ty,pos,after,none⟩::l) ⟨E,L⟩ q:=by
 refine OD.heap (fun g s a S=>?_) h
 obtain⟨vs,q1,q2⟩:=XCv S hp
 unfold X7Y at hr
 split at hr
 case h_2=>cases hr
 rename_i e' zs by_ ht
 split at hr
 case h_2=>cases hr
 rename_i hle
 split at hr
 case h_2=>cases hr
 rename_i cs' hf
 split at hr
 case h_2=>cases hr
 rename_i hall
 cases hr
 unfold XI6 at ht
 split at ht
 case h_2=>cases ht
 rename_i elem hu
 split at ht
 case h_2=>cases ht
 rename_i e'' zs' i h1 h2 h3
 split at ht
 case h_2=>cases ht
 rename_i hc
 simp only [Option.some.injEq,Prod.mk.injEq]at ht
 obtain⟨rfl,rfl,rfl⟩:=ht
 simp only [Bool.and_eq_true,Nat.beq_eq,Nat.blt_eq]at hc hall
 unfold X7W at h2
 split at h2
 case h_2=>cases h2
 rename_i z hz
 have hzc:=X8L (M:=MM C.M g) (g:=g) (a:=a) (X0g hz) h2
 have hzs:z.cells.size=e'':=by have:=hzc.length;simp at this;omega
 have hlen:(X08 z.cells (len*e'')).length=len*e'':=X1P ..
 have R:F2 (DL (MM C.M g) g a) (XBM zs' len) (X08 z.cells (len*e'')):=by
  refine F2.of_get (by rw [X4D,hlen,hc.1.1]) fun j d v e1 e2=>?_
  have hj:j<len*e'':=by rw [← hlen];exact(List.getElem?_eq_some_iff.1 e2).1
  rw [X7X _ (by omega) _ _ (by rw [hc.1.1];exact hj),hc.1.1]at e1
  rw [X2R _ _ _ (by omega) hj,hzs]at e2
  obtain⟨u,r1,r2⟩:=hzc.get _ _ e1
  simp at r1
  rw [r1]at e2;cases e2
  exact r2
 obtain⟨l',f1,f2⟩:=X5D hf q2 R
 have F:=(f2.cr hall.1)
 obtain⟨S',r'⟩:=S.newRow (n:=len) (c:=len) hall.2 F (Nat.le_refl _)
 refine⟨_,_,_,?_,S',r'⟩
 have c1:Nat.beq z.cells.size e''=true:=by rw [hzs];exact Nat.beq_refl _
 have c2:Nat.blt 0 e''=true:=by simpa using hc.1.2
 have c3:Nat.beq l'.length (len*e'')=true:=by rw [← f2.length,hall.2];exact Nat.beq_refl _
 simp only [X0c,q1,X2F,hu,h1,hz,hle,c1,c2,Bool.and_self,f1,c3,XDt]
theorem map_take {f:α→D} (xs ys:List α) {n:Nat} (h:xs.length=n):((xs++ys).map f).take (n*1)=xs.map f:=by
 rw [Nat.mul_one,← List.map_take,List.take_append_of_le_length (by omega),List.take_of_length_le (by omega)]
theorem OD.appT {f:α→D} {args:Array Operand} {ats:Array TypeId} {x y:Operand} {j n c m:Nat} {xs rest vs:List α} {ds:List D} (ha:args.toList=[x,y]) (ht:appT P ats=some 1) (hx:zd E x=some (.row j 0 n c)) (hL:L[j]?=some (.row 1 c ((xs++rest).map f))) (hy:zd E y=some (.sl 1 m ds)) (hv:ds=vs.map f)
  (hn:xs.length=n) (hc:(xs++rest).length=c) (hm:vs.length=m) (hm0:0<m) (h2:n+m≤100000000)
  (h:∀ (rest':List α) (c':Nat),((xs++vs)++rest').length=c'→OD P ov C ops l ⟨pt C.nt (X2K j E) dst (.row j 0 (n+m) c'),X1p j (L.set j (.row 1 c' (((xs++vs)++rest').map f)))⟩ q):OD P ov C ops (⟨dst,.call ⟨.builtin .append,args,ats⟩,ty,pos,after,none⟩::l) ⟨E,L⟩ q:=by
 rw [List.length_append]at hc
 by_cases hr:n+m≤c
 ·
  refine OD.appI ha ht hx hL hy (Nat.le_refl _) hr (by omega) (by omega) h2 ?_
  have e:((xs++rest).map f).take (n*1)++ds++((xs++rest).map f).drop ((n+m)*1)=((xs++vs)++rest.drop m).map f:=by
   rw [map_take xs rest hn,hv,Nat.mul_one,← List.map_drop,List.drop_append,List.drop_of_length_le (by omega),List.nil_append,hn,show n+m - n=m by omega,List.map_append,List.map_append]
  rw [e]
  exact h (rest.drop m) c (by simp only [List.length_append,List.length_drop];omega)
 ·
  refine OD.appG ha ht hx hL hy (by omega) (by omega) (by omega) h2 ?_
  rw [map_take xs rest hn,hv,← List.map_append]
  have:=h [] (n+m) (by simp only [List.length_append,List.length_nil];omega)
  rw [List.append_nil]at this
  exact this
theorem OD.nilRowAt (i o j e:Nat) {cs:List D} (hL:L[i]?=some (.box cs)) (hc:cs[o]?=some (.lit (.slice none 0 0))) (hj:L[j]?=some .dead) (h:OD P ov C ops l ⟨E,(L.set j (.row e 0 [])).set i (.box (cs.set o (.row j 0 0 0)))⟩ q):OD P ov C ops l ⟨E,L⟩ q:=fun g s a S=>by
 have hij:i≠j:=by rintro rfl;rw [hL]at hj;cases hj
 have hlen:g.length=L.length:=S.len
 have hi:=(List.getElem?_eq_some_iff.1 hL).1
 have hjl:=(List.getElem?_eq_some_iff.1 hj).1
 have hjn:g[j]?=some none:=by
  have:=S.obj j _ _ (List.getElem?_eq_getElem (by omega)) hj
  rw [List.getElem?_eq_getElem (by omega)];exact congrArg some this
 refine h g s a ?_
 refine S.heap' (X1e.refl (fun _=>False) a) (fun _ f=>f.elim) S.ok (Gh.On.refl _) (by simp [hlen]) (fun k hk=>.inl hk) S.nd (fun m x ob h1 h2=>?_) fun m cs' h2=>?_
 ·
  by_cases hm:m=i
  ·
   subst hm
   rw [List.getElem?_set_self (by simpa using hi)]at h2
   cases h2
   obtain⟨b,k,vs,rfl,p1,p2⟩:=S.obj m x _ h1 hL
   obtain⟨v,q1,q2⟩:=p2.get o _ hc
   have hv:=X3v q2.dr
   subst hv
   refine⟨b,k,vs,rfl,p1,?_⟩
   have:vs=vs.set o (.slice none 0 0):=by
    refine List.ext_getElem? fun z=>?_
    by_cases hz:z=o
    · subst hz;rw [List.getElem?_set_self (List.getElem?_eq_some_iff.1 q1).1,q1]
    · rw [List.getElem?_set_ne (fun q=>hz q.symm)]
   rw [this]
   exact p2.set o _ _ (.inl ⟨hjn,rfl,rfl,rfl⟩)
  ·
   rw [List.getElem?_set_ne (fun q=>hm q.symm)]at h2
   by_cases hmj:m=j
   ·
    subst hmj
    rw [List.getElem?_set_self hjl]at h2
    cases h2
    rw [hjn]at h1;cases h1
    exact⟨by simp,.inl ⟨rfl,rfl⟩⟩
   ·
    rw [List.getElem?_set_ne (fun q=>hmj q.symm)]at h2
    exact S.obj m x ob h1 h2
 ·
  by_cases hm:m=i
  · subst hm;exact .inr ⟨cs,hL⟩
  ·
   rw [List.getElem?_set_ne (fun q=>hm q.symm)]at h2
   by_cases hmj:m=j
   · subst hmj;rw [List.getElem?_set_self hjl]at h2;cases h2
   · rw [List.getElem?_set_ne (fun q=>hmj q.symm)]at h2;exact .inr ⟨cs',h2⟩
theorem OD.rowIs (j:Nat) {e n:Nat} {cs cs':List D} (hL:L[j]?=some (.row e n cs)) (hc:cs=cs') (h:OD P ov C ops l ⟨E,L.set j (.row e n cs')⟩ q):OD P ov C ops l ⟨E,L⟩ q:=by
 subst hc
 rw [XF9 (o':=.dead) hL]at h
 exact h
end
end Go.Vai
namespace Go.Vai
noncomputable section
variable {P:Program} {ov:Ov} {C:Cx0}
variable {ops:Array Oper} {dst:Option Nat} {ty:TypeId} {pos:String} {after:Array Edge} {l:List Oper} {E:X19} {L:List Ob} {q:SD→Prop} {α:Type}
theorem X0m {α β:Type} {P:Program} {f:α→Sem β} {a:α}:∀ {s:Sem α},X5H P s=some a→X5H P (s >>= f)=X5H P (f a):=by
 intro s
 induction s with
 | pure b=>intro h;cases h;rfl
 | program k ih=>intro h;exact ih P h
 | mark m k ih=>intro h;exact ih h
 | _=>intro h;cases h
theorem X2X {t:TypeId} {d:TypeDesc} (h:P.underlying t=some d):X5H P (underlying t)=some d:=by
 show X5H P (match P.underlying t with | some d=>pure d | none=>stuck "no such type")=some d
 rw [h];rfl
def sB (s:ByteArray) (i:Nat):Nat:=if h:i<s.size then(s[i]'h).toNat else 0
theorem XBO (s:ByteArray) (i:Nat):sB s i<256:=by
 unfold sB;split
 · exact(s[i]).toNat_lt
 · omega
theorem XBP {t:TypeId} {s:ByteArray} {k:IntKind} {i:Nat} (h:P.underlying t=some .string) (hi:i<s.size):X5H P (Instr.index t (.string s) (.int k (i:Int)))=some (.int .u8 ((sB s i:Nat):Int)):=by
 unfold Instr.index
 rw [X0m (a:=(k,(i:Int))) rfl]
 simp only
 rw [X0m (X2X h)]
 simp only
 have e:(if 0≤(i:Int)then s[(i:Int).toNat]? else none)=some s[i]:=by
  rw [if_pos (by omega),Int.toNat_natCast]
  exact ByteArray.getElem?_lt' s _ hi
 rw [e]
 simp only [sB,hi,dite_true]
 rfl
def X6r (P:Program) (t:TypeId):Bool:=match P.underlying t with
 | some .string=>true
 | _=>false
theorem X4F {t:TypeId} (h:X6r P t=true):P.underlying t=some .string:=by
 unfold X6r at h
 split at h
 · assumption
 · cases h
theorem OD.ixS {t:TypeId} {x y:Operand} {s:ByteArray} {k:IntKind} {z:Int} {i:Nat} (hx:zd E x=some (.str s)) (hy:zd E y=some (.int k z)) (ht:X6r P t=true) (hz:z=(i:Int)) (hi:i<s.size)
  (h:sB s i<256→OD P ov C ops l ⟨pt C.nt E dst (.int .u8 ((sB s i:Nat):Int)),L⟩ q):OD P ov C ops (⟨dst,.index t x y,ty,pos,after,none⟩::l) ⟨E,L⟩ q:=by
 refine OD.plain (fun g s' a S=>?_) (h (XBO s i))
 obtain⟨vx,q1,q2⟩:=X0M S hx
 obtain⟨vy,p1,p2⟩:=X0M S hy
 cases q2;cases p2
 subst hz
 refine⟨_,?_,CR.int⟩
 simp only [X0c,q1,p1]
 refine X0O ?_
 simp only [X8U,X1R,XBP (X4F ht) hi]
 rfl
theorem X5G {t:TypeId} {s:ByteArray} {lo hi:Option Value} {lw u:Nat} (h:P.underlying t=some .string) (hlo:(lo=none∧lw=0)∨∃ k,lo=some (.int k (lw:Int))) (hhi:(hi=none∧u=s.size)∨∃ k,hi=some (.int k (u:Int))) (h1:lw≤u) (h2:u≤s.size) :
  X5H P (Instr.sliceAt t (.string s) lo hi none)=some (.string (s.extract lw u)):=by
 unfold Instr.sliceAt
 rw [X0m (X2X h)]
 simp only
 unfold Instr.slice
 rw [X0m (X2X h)]
 simp only
 have hb:X5H P (Instr.sliceBounds false s.size s.size lo hi none)=some (lw,u,s.size):=by
  unfold Instr.sliceBounds
  rw [X0m (a:=s.size) rfl]
  have bd:∀ (k:IntKind) (v y:Nat) c,v≤y→X5H P (Instr.sliceBound (.int k (v:Int)) y c)=some v:=by
   intro k v y c hv
   unfold Instr.sliceBound
   rw [X0m (a:=(k,(v:Int))) rfl]
   simp only
   rw [if_pos (by omega),Int.toNat_natCast];rfl
  rcases hhi with⟨rfl,rfl⟩ | ⟨k2,rfl⟩
  ·
   refine(X0m (a:=s.size) rfl).trans ?_
   rcases hlo with⟨rfl,rfl⟩ | ⟨k,rfl⟩
   · exact(X0m (a:=0) rfl).trans rfl
   · exact(X0m (bd _ _ _ _ h1)).trans rfl
  ·
   refine(X0m (bd _ _ _ _ h2)).trans ?_
   rcases hlo with⟨rfl,rfl⟩ | ⟨k,rfl⟩
   · exact(X0m (a:=0) rfl).trans rfl
   · exact(X0m (bd _ _ _ _ h1)).trans rfl
 rw [if_neg (by simp)]
 exact(X0m hb).trans rfl
theorem OD.slS {t:TypeId} {x:Operand} {lo hi:Option Operand} {s:ByteArray} {lw u:Nat} (hx:zd E x=some (.str s)) (ht:X6r P t=true)
  (hlo:(lo=none∧lw=0)∨∃ o k,lo=some o∧zd E o=some (.int k (lw:Int))) (hhi:(hi=none∧u=s.size)∨∃ o k,hi=some o∧zd E o=some (.int k (u:Int))) (h1:lw≤u) (h2:u≤s.size)
  (h:OD P ov C ops l ⟨pt C.nt E dst (.str (s.extract lw u)),L⟩ q):OD P ov C ops (⟨dst,.slice t x lo hi none,ty,pos,after,none⟩::l) ⟨E,L⟩ q:=by
 refine OD.plain (fun g s' a S=>?_) h
 obtain⟨vx,q1,q2⟩:=X0M S hx
 cases q2
 have hu:=X4F ht
 refine⟨.string (s.extract lw u),?_,CR.str⟩
 simp only [X0c,q1]
 rcases hlo with⟨rfl,rfl⟩ | ⟨o,k,rfl,ho⟩
 ·
  rcases hhi with⟨rfl,rfl⟩ | ⟨o2,k2,rfl,ho2⟩
  · simp only [X95,X3i,X26,X1R,X5G hu (.inl ⟨rfl,rfl⟩) (.inl ⟨rfl,rfl⟩) h1 h2];rfl
  ·
   obtain⟨v2,r1,r2⟩:=X0M S ho2
   cases r2
   simp only [X95,r1,X3i,X26,X1R,X5G hu (.inl ⟨rfl,rfl⟩) (.inr ⟨k2,rfl⟩) h1 h2];rfl
 ·
  obtain⟨v,r1,r2⟩:=X0M S ho
  cases r2
  rcases hhi with⟨rfl,rfl⟩ | ⟨o2,k2,rfl,ho2⟩
  · simp only [X95,r1,X3i,X26,X1R,X5G hu (.inr ⟨k,rfl⟩) (.inl ⟨rfl,rfl⟩) h1 h2];rfl
  ·
   obtain⟨v2,r3,r4⟩:=X0M S ho2
   cases r4
   simp only [X95,r1,r3,X3i,X26,X1R,X5G hu (.inr ⟨k,rfl⟩) (.inr ⟨k2,rfl⟩) h1 h2];rfl
end
end Go.Vai

/-
  What is proved here: rules by which a body of code is shown to come to what is asked, over plain data and a table of obje rules for calls whose answer is known, for rows of data, their elements and parts (part RE). a law of plain values, from its contract over plain data (part RP). No conditions but those that the theorems state.
-/
import Derived.Test.YtmmmjbipgngamaaGreatDoorRC
import Derived.Test.YtmmmjbipgngamaaGreatDoorVO
set_option linter.unusedVariables false
set_option linter.unusedSimpArgs false
namespace Go.Vai
noncomputable section
variable {P:Program} {ov:Ov} {C:Cx0}
theorem X7N.mono {C:Cx0} {q r:SD→Prop} (h:∀ σ,q σ→r σ) {s:Env} {a:AH}:X7N C q s a→X7N C r s a:=fun⟨σ,g,S,k⟩=>⟨σ,g,S,h σ k⟩
def XBW (P:Program) (nt:Nat) (ops:Array Oper):List Oper→X0m→List Ob→Option (X0m×List Ob)
 | [],E,L=>some (E,L)
 | o::l,E,L=>match o.guard with
  | none=>match XAT P o.op E L with
   | some (d,L')=>XBW P nt ops l (pt nt E o.dst d) L'
   | none=>none
  | some (j,w)=>match X8a ops j with
   | some t=>match lk E t with
    | some (.bool true)=>match w with
     | true=>match XAT P o.op E L with
      | some (d,L')=>XBW P nt ops l (pt nt E o.dst d) L'
      | none=>none
     | false=>XBW P nt ops l (pt nt E o.dst (.tup [])) L
    | some (.bool false)=>match w with
     | false=>match XAT P o.op E L with
      | some (d,L')=>XBW P nt ops l (pt nt E o.dst d) L'
      | none=>none
     | true=>XBW P nt ops l (pt nt E o.dst (.tup [])) L
    | some (.tup [])=>XBW P nt ops l (pt nt E o.dst (.tup [])) L
    | _=>none
   | none=>none
theorem XDG {M:Nat→Prop} {g:Gh} {a:AH}:DR M g a (.tup []) undef:=⟨[],rfl,.nil⟩
theorem X6s {M:Nat→Prop} {g:Gh} {a:AH} {b:Bool} {v:Value} (h:DR M g a (.bool b) v):v=.bool b:=by cases h;rfl
theorem XDH {M:Nat→Prop} {g:Gh} {a:AH} {v:Value} (h:DR M g a (.tup []) v):v=undef:=by
 obtain⟨vs,rfl,h⟩:=h;cases h;rfl
theorem XFP {ops:Array Oper}:∀ (l:List Oper) (E:X0m) (L:List Ob) (E':X0m) (L':List Ob),XBW P C.nt ops l E L=some (E',L')→∀ {rest:List Oper} {q:SD→Prop},OD P ov C ops rest ⟨E',L'⟩ q→OD P ov C ops (l++rest) ⟨E,L⟩ q:=by
 intro l
 induction l with
 | nil=>intro E L E' L' h rest q k;cases h;exact k
 | cons o l ih =>
  intro E L E' L' h rest q k
  have step:∀ {d:D} {L1:List Ob},XAT P o.op E L=some (d,L1)→XBW P C.nt ops l (pt C.nt E o.dst d) L1=some (E',L')→∀ g s a,SR C ⟨E,L⟩ g s a→(∀ tm,(∀ t,gd tm t=s t)→Region.wanted o (X0b ops tm)=true)→X31 P ov C.nt ops (fun a'=>X1C (·∈C.g0.cls) C.a0 a') (o::(l++rest)) s a (X7N C q):=by
   intro d L1 h1 h2 g s a S hg
   obtain⟨v,a',g',e,S',r⟩:=XDF (C:=C) (ty:=o.type) (σ:=⟨E,L⟩) h1 g s a S
   exact X31.cons S.kp hg (X4e.plain e (ih _ _ _ _ h2 k g' _ a' (S'.put r o.dst)))
  have skip:XBW P C.nt ops l (pt C.nt E o.dst (.tup [])) L=some (E',L')→∀ g s a,SR C ⟨E,L⟩ g s a→(∀ tm,(∀ t,gd tm t=s t)→Region.wanted o (X0b ops tm)=false)→X31 P ov C.nt ops (fun a'=>X1C (·∈C.g0.cls) C.a0 a') (o::(l++rest)) s a (X7N C q):=by
   intro h2 g s a S hg
   exact X31.skip S.kp hg (ih _ _ _ _ h2 k g _ a (S.put XDG o.dst))
  intro g s a S
  simp only [XBW]at h
  split at h
  ·
   rename_i hgd
   split at h
   case h_2=>cases h
   rename_i d L1 hs
   exact step hs h g s a S fun tm _=>X59 hgd _
  ·
   rename_i j w hgd
   split at h
   case h_2=>cases h
   rename_i t ht
   split at h
   ·
    rename_i hb
    have hb':s t=.bool true:=X6s (S.env t _ hb)
    split at h
    ·
     split at h
     case h_2=>cases h
     rename_i d L1 hs
     exact step hs h g s a S fun tm hs=>X1f hgd ht hb' tm hs
    · exact skip h g s a S fun tm hs=>X1f hgd ht hb' tm hs
   ·
    rename_i hb
    have hb':s t=.bool false:=X6s (S.env t _ hb)
    split at h
    ·
     split at h
     case h_2=>cases h
     rename_i d L1 hs
     exact step hs h g s a S fun tm hs=>X1f hgd ht hb' tm hs
    · exact skip h g s a S fun tm hs=>X1f hgd ht hb' tm hs
   ·
    rename_i hb
    have hb':s t=undef:=XDH (S.env t _ hb)
    exact skip h g s a S fun tm hs=>X7W hgd ht hb' tm hs
   · cases h
def sel:List Nat→X0m→Option X0m
 | [],_=>some []
 | t::ts,E=>match lk E t,sel ts E with
  | some d,some r=>some ((t,d)::r)
  | _,_=>none
theorem X6t:∀ {ts:List Nat} {E E':X0m},sel ts E=some E'→∀ t d,lk E' t=some d→lk E t=some d:=by
 intro ts
 induction ts with
 | nil=>intro E E' h t d e;cases h;cases e
 | cons u ts ih =>
  intro E E' h t d e
  simp only [sel]at h
  split at h
  ·
   rename_i d' r h1 h2
   cases h
   rcases X1g e with⟨rfl,rfl⟩ | ⟨_,h3⟩
   · exact h1
   · exact ih h2 t d h3
  · cases h
def XGc (P:Program) (nt:Nat) (ops:Array Oper) (l:List Oper) (E:X0m) (L:List Ob) (live:List Nat):Option (X0m×List Ob):=match XBW P nt ops l E L with
 | some (E',L')=>match sel live E' with
  | some E''=>some (E'',L')
  | none=>none
 | none=>none
theorem OD.less {ops:Array Oper} {l:List Oper} {E E':X0m} {L:List Ob} {q:SD→Prop} (h:∀ t d,lk E' t=some d→lk E t=some d) (k:OD P ov C ops l ⟨E',L⟩ q):OD P ov C ops l ⟨E,L⟩ q :=
 fun g s a S=>k g s a (S.less h)
theorem OD.run {ops:Array Oper} {l:List Oper} {E:X0m} {L:List Ob} {q:SD→Prop} (k:Nat) (live:List Nat) {E':X0m} {L':List Ob} (h:XGc P C.nt ops (l.take k) E L live=some (E',L')) (hq:OD P ov C ops (l.drop k) ⟨E',L'⟩ q):OD P ov C ops l ⟨E,L⟩ q:=by
 unfold XGc at h
 split at h
 case h_2=>cases h
 rename_i E1 L1 h1
 split at h
 case h_2=>cases h
 rename_i E2 h2
 cases h
 have:=XFP _ _ _ _ _ h1 (hq.less (X6t h2))
 rwa [List.take_append_drop]at this
theorem OD.nil {ops:Array Oper} {σ:SD} {q:SD→Prop} (h:q σ):OD P ov C ops [] σ q:=fun g s a S=>X31.nil S.kp ⟨σ,g,S,h⟩
theorem OD.mono {ops:Array Oper} {l:List Oper} {σ:SD} {q r:SD→Prop} (h:OD P ov C ops l σ q) (k:∀ σ,q σ→r σ):OD P ov C ops l σ r :=
 fun g s a S=>(h g s a S).mono fun _ _=>X7N.mono k
def XER:Ob→List Nat
 | .box cs=>cs.flatMap X1I
 | _=>[]
def XFQ (k:Nat) (l:List Nat):Bool:=l.all fun i=>Nat.blt i k
def closedB (k:Nat) (E:X0m) (L:List Ob):Bool:=E.all (fun p=>XFQ k (XCj p.2)) && L.all fun o=>XFQ k (XER o)
theorem X6G {k:Nat} {l:List Nat} (h:XFQ k l=true):∀ i∈l,i<k:=fun i hi=>by
 have:=List.all_eq_true.1 h i hi
 simpa using this
theorem XGd:∀ {E:X0m} {t:Nat} {d:D},lk E t=some d→(t,d)∈E:=by
 intro E
 induction E with
 | nil=>intro t d h;cases h
 | cons p E ih =>
  obtain⟨u,x⟩:=p
  intro t d h
  rcases X1g h with⟨rfl,rfl⟩ | ⟨_,h2⟩
  · simp
  · exact List.mem_cons_of_mem _ (ih h2)
theorem XBX {k:Nat} {g:Gh} {l:List Nat} (h:∀ i∈l,i<k):OnR l g (g.take k):=fun i hi x e=>by
 rw [List.getElem?_take,if_pos (h i hi)];exact e
theorem X9h {g:Gh} {k x:Nat} (h:x∈Gh.cls (g.take k)):x∈g.cls:=by
 obtain⟨i,b,e⟩:=Gh.mem_cls.1 h
 rw [List.getElem?_take]at e
 split at e
 · exact Gh.mem_cls.2 ⟨i,b,e⟩
 · cases e
theorem SR.trunc {E:X0m} {L:List Ob} {g:Gh} {s:Env} {a:AH} (S:SR C ⟨E,L⟩ g s a) {k:Nat} (hk:C.g0.length≤k) (hc:closedB k E (L.take k)=true):SR C ⟨E,L.take k⟩ (g.take k) s a:=by
 simp only [closedB,Bool.and_eq_true,List.all_eq_true]at hc
 have hm:∀ x,x<a.next→MM C.M (g.take k) x→MM C.M g x:=fun x _ m=>by
  rcases m with m | m
  · exact .inl m
  · exact .inr (X9h m)
 have K:X1C (fun _=>False) a a:=X1C.refl _ _
 refine⟨S.ok,S.old,fun t d e=>?_,by simp [S.len],?_,fun i x o h1 h2=>?_,?_,fun x hx=>S.nm x (X9h hx),S.kp,S.ok0,fun i b x cs h1 h2=>?_,fun i cs h1 h2=>S.pk i cs h1 (by
  rw [List.getElem?_take]at h2
  split at h2
  · exact h2
  · cases h2)⟩
 · exact DR.monoR K (fun _ f=>f.elim) hm (XBX (X6G (hc.1 (t,d) (XGd e)))) (S.env t d e)
 · have:=S.pl;simp;omega
 ·
  have h1':=h1
  rw [List.getElem?_take]at h1 h2
  split at h1
  case isFalse=>cases h1
  rename_i hi
  rw [if_pos hi]at h2
  have O:=S.obj i x o h1 h2
  cases o with
  | box cs =>
   obtain⟨b,y,vs,rfl,q1,q2⟩:=O
   have hmem:Ob.box cs∈L.take k:=List.mem_iff_getElem?.2 ⟨i,by rw [List.getElem?_take,if_pos hi];exact h2⟩
   have hr:=X6G (hc.2 _ hmem)
   exact⟨b,y,vs,rfl,q1,q2.mono_mem fun d hd v r=>DL.monoR K (fun _ f=>f.elim) hm (XBX fun j hj=>hr j (by simp only [XER,List.mem_flatMap];exact⟨d,hd,hj⟩)) r⟩
  | row e n cs =>
   obtain⟨hl,O⟩:=O
   refine⟨hl,?_⟩
   rcases O with O | ⟨b,y,vs,rfl,q1,q2⟩
   · exact .inl O
   · exact .inr ⟨b,y,vs,rfl,q1,q2.mono fun _ _ r=>r.mono K (fun _ f=>f.elim) hm⟩
  | dead=>exact O
 ·
  have:(Gh.cls (g.take k)).Sublist g.cls:=List.Sublist.filterMap _ (List.take_sublist k g)
  exact this.nodup S.nd
 ·
  have h2':L[i]?=some (.box cs):=by
   rw [List.getElem?_take]at h2
   split at h2
   · exact h2
   · cases h2
  have:=S.pre i b x cs h1 h2'
  rw [List.getElem?_take]
  split
  · exact this
  ·
   rename_i hi
   have:=(List.getElem?_eq_some_iff.1 h1).1
   omega
theorem OD.nilW {ops:Array Oper} {E E':X0m} {L:List Ob} {q:SD→Prop} (live:List Nat) (k:Nat) (hs:sel live E=some E') (hk:C.g0.length≤k) (hc:closedB k E' (L.take k)=true) (h:q ⟨E',L.take k⟩):OD P ov C ops [] ⟨E,L⟩ q :=
 fun g s a S=>X31.nil S.kp ⟨_,_,(S.less (X6t hs)).trunc hk hc,h⟩
theorem CD.weak {c:Code} {E E':X0m} {L:List Ob} {Q:X4E} (live:List Nat) (k:Nat) (hs:sel live E=some E') (hk:C.g0.length≤k) (hc:closedB k E' (L.take k)=true) (h:CD P ov C c ⟨E',L.take k⟩ Q):CD P ov C c ⟨E,L⟩ Q :=
 fun g s a S=>h _ s a ((S.less (X6t hs)).trunc hk hc)
theorem OD.weak {ops:Array Oper} {l:List Oper} {E E':X0m} {L:List Ob} {q:SD→Prop} (live:List Nat) (k:Nat) (hs:sel live E=some E') (hk:C.g0.length≤k) (hc:closedB k E' (L.take k)=true) (h:OD P ov C ops l ⟨E',L.take k⟩ q):OD P ov C ops l ⟨E,L⟩ q :=
 fun g s a S=>h _ s a ((S.less (X6t hs)).trunc hk hc)
section
variable {σ:SD} {Q:X4E}
theorem CD.skip (h:Q.n σ):CD P ov C .skip σ Q:=fun g s a S=>Cx.skip ⟨σ,g,S,h⟩
theorem CD.label {l:Nat} (h:Q.n σ):CD P ov C (.label l) σ Q:=fun g s a S=>Cx.label ⟨σ,g,S,h⟩
theorem CD.exit {i:Nat} (h:Q.e i σ):CD P ov C (.exit i) σ Q:=fun g s a S=>Cx.exit ⟨σ,g,S,h⟩
theorem CD.ret (h:Q.r σ):CD P ov C .ret σ Q:=fun g s a S=>Cx.ret ⟨σ,g,S,h⟩
theorem CD.region {id:Nat} {ops:Array Oper} (h:OD P ov C ops ops.toList σ Q.n):CD P ov C (.region id ops false) σ Q:=fun g s a S=>Cx.region (h g s a S)
theorem CD.seq {c d:Code} (h:CD P ov C c σ ⟨fun σ=>CD P ov C d σ Q,Q.e,Q.r⟩):CD P ov C (.seq c d) σ Q:=fun g s a S=>by
 refine Cx.seq ((h g s a S).mono (fun s a k=>?_) (fun _ _ _ k=>k) fun _ _ k=>k)
 obtain⟨σ',g',S',k⟩:=k
 exact k g' s a S'
theorem CD.mono {c:Code} {R:X4E} (h:CD P ov C c σ Q) (hn:∀ σ,Q.n σ→R.n σ) (he:∀ i σ,Q.e i σ→R.e i σ) (hr:∀ σ,Q.r σ→R.r σ):CD P ov C c σ R :=
 fun g s a S=>(h g s a S).mono (fun _ _=>X7N.mono hn) (fun i _ _=>X7N.mono (he i)) fun _ _=>X7N.mono hr
theorem CD.condT {c:Operand} {x y:Code} (hc:zd σ.E c=some (.bool true)) (h:CD P ov C x σ Q):CD P ov C (.cond c x y) σ Q:=fun g s a S=>by
 obtain⟨v,q1,q2⟩:=X0C S hc
 cases q2
 exact Cx.cond q1 (fun _=>h g s a S) fun e=>by cases e
theorem CD.condF {c:Operand} {x y:Code} (hc:zd σ.E c=some (.bool false)) (h:CD P ov C y σ Q):CD P ov C (.cond c x y) σ Q:=fun g s a S=>by
 obtain⟨v,q1,q2⟩:=X0C S hc
 cases q2
 exact Cx.cond q1 (fun e=>by cases e) fun _=>h g s a S
theorem CD.condP {c:Operand} {x y:Code} {p:Prop} [Decidable p] (hc:zd σ.E c=some (.bool (decide p))) (h1:p→CD P ov C x σ Q) (h2:¬ p→CD P ov C y σ Q):CD P ov C (.cond c x y) σ Q:=fun g s a S=>by
 obtain⟨v,q1,q2⟩:=X0C S hc
 cases q2
 exact Cx.cond q1 (fun e=>h1 (of_decide_eq_true e) g s a S) fun e=>h2 (of_decide_eq_false e) g s a S
theorem CD.condB {c:Operand} {x y:Code} {b:Bool} (hc:zd σ.E c=some (.bool b)) (h1:b=true→CD P ov C x σ Q) (h2:b=false→CD P ov C y σ Q):CD P ov C (.cond c x y) σ Q:=fun g s a S=>by
 obtain⟨v,q1,q2⟩:=X0C S hc
 cases q2
 exact Cx.cond q1 (fun e=>h1 e g s a S) fun e=>h2 e g s a S
theorem CD.block {i:Nat} {c:Code} (h:CD P ov C c σ ⟨Q.n,fun j σ=>bif Nat.beq j i then Q.n σ else Q.e j σ,Q.r⟩):CD P ov C (.block i c) σ Q:=fun g s a S=>by
 refine Cx.block ((h g s a S).mono (fun _ _ k=>k) (fun j s a k=>?_) fun _ _ k=>k)
 show bif Nat.beq j i then X7N C Q.n s a else X7N C (Q.e j) s a
 have k:X7N C (fun σ=>bif Nat.beq j i then Q.n σ else Q.e j σ) s a:=k
 cases e:Nat.beq j i with
 | true=>rw [e]at k;exact k
 | false=>rw [e]at k;exact k
theorem CD.scope {c:Code} (h:CD P ov C c σ Q):CD P ov C (.scope c) σ Q:=fun g s a S=>Cx.scope (h g s a S)
theorem CD.loop {c:Code} (I:Nat→SD→Prop) (step:∀ n σ,I n σ→CD P ov C c σ ⟨fun σ'=>∃ m,m<n∧I m σ',Q.e,Q.r⟩) (n:Nat) (hi:I n σ):CD P ov C (.loop c) σ Q:=fun g s a S=>by
 refine Cx.loop (fun n s a=>X7N C (I n) s a) (fun n s a ⟨σ',g',S',k⟩=>?_) n s a ⟨σ,g,S,hi⟩
 refine(step n σ' k g' s a S').mono (fun s a k=>?_) (fun _ _ _ k=>k) fun _ _ k=>k
 obtain⟨σ'',g'',S'',m,h1,h2⟩:=k
 exact⟨m,h1,σ'',g'',S'',h2⟩
end
def setv (t:Nat) (d:D):X0m→X0m
 | []=>[]
 | (u,x)::r=>bif Nat.beq u t then(u,d)::setv t d r else(u,x)::setv t d r
theorem X6u {t:Nat} {d:D}:∀ {E:X0m} {u:Nat} {x:D},lk (setv t d E) u=some x→(u=t∧x=d∧∃ y,lk E t=some y)∨(u≠t∧lk E u=some x):=by
 intro E
 induction E with
 | nil=>intro u x h;cases h
 | cons p E ih =>
  obtain⟨w,z⟩:=p
  intro u x h
  simp only [setv]at h
  by_cases hw:w=t
  ·
   subst hw
   rw [Nat.beq_refl]at h
   simp only [cond_true]at h
   rcases X1g h with⟨rfl,rfl⟩ | ⟨h1,h2⟩
   · exact .inl ⟨rfl,rfl,z,X0x ..⟩
   ·
    rcases ih h2 with⟨e,_⟩ | ⟨_,h3⟩
    · exact absurd e h1
    · exact .inr ⟨h1,by rw [X0q _ _ h1];exact h3⟩
  ·
   have hb:Nat.beq w t=false:=by
    cases e:Nat.beq w t with
    | false=>rfl
    | true=>exact absurd (Nat.eq_of_beq_eq_true e) hw
   rw [hb]at h
   simp only [cond_false]at h
   rcases X1g h with⟨rfl,rfl⟩ | ⟨h1,h2⟩
   · exact .inr ⟨hw,X0x ..⟩
   ·
    rcases ih h2 with⟨rfl,rfl,y,hy⟩ | ⟨h3,h4⟩
    · exact .inl ⟨rfl,rfl,y,by rw [X0q _ _ (Ne.symm hw)];exact hy⟩
    · exact .inr ⟨h3,by rw [X0q _ _ h1];exact h4⟩
theorem SR.setv {E:X0m} {L:List Ob} {g:Gh} {s:Env} {a:AH} (S:SR C ⟨E,L⟩ g s a) {t:Nat} {d:D} (h:DR (MM C.M g) g a d (s t)):SR C ⟨setv t d E,L⟩ g s a :=
 ⟨S.ok,S.old,fun u x e=>by
  rcases X6u e with⟨rfl,rfl,_⟩ | ⟨_,h2⟩
  · exact h
  · exact S.env u x h2,S.len,S.pl,S.obj,S.nd,S.nm,S.kp,S.ok0,S.pre,S.pk⟩
theorem OD.is {ops:Array Oper} {l:List Oper} {E:X0m} {L:List Ob} {q:SD→Prop} (t:Nat) {d d':D} (hl:lk E t=some d) (e:d=d') (h:OD P ov C ops l ⟨setv t d' E,L⟩ q):OD P ov C ops l ⟨E,L⟩ q :=
 fun g s a S=>h g s a (S.setv (e ▸ S.env t d hl))
theorem OD.ifP {ops:Array Oper} {l:List Oper} {E:X0m} {L:List Ob} {q:SD→Prop} (t:Nat) {p:Prop} [Decidable p] (hl:lk E t=some (.bool (decide p))) (h1:p→OD P ov C ops l ⟨setv t (.bool true) E,L⟩ q) (h2:¬ p→OD P ov C ops l ⟨setv t (.bool false) E,L⟩ q):OD P ov C ops l ⟨E,L⟩ q:=by
 by_cases hp:p
 · exact OD.is t hl (by rw [decide_eq_true hp]) (h1 hp)
 · exact OD.is t hl (by rw [decide_eq_false hp]) (h2 hp)
theorem OD.ifB {ops:Array Oper} {l:List Oper} {E:X0m} {L:List Ob} {q:SD→Prop} (t:Nat) {b:Bool} (hl:lk E t=some (.bool b)) (h1:b=true→OD P ov C ops l ⟨setv t (.bool true) E,L⟩ q) (h2:b=false→OD P ov C ops l ⟨setv t (.bool false) E,L⟩ q):OD P ov C ops l ⟨E,L⟩ q:=by
 cases b with
 | true=>exact OD.is t hl rfl (h1 rfl)
 | false=>exact OD.is t hl rfl (h2 rfl)
def env1:Nat→List D→X0m
 | _,[]=>[]
 | i,d::ds=>(i,d)::env1 (i+1) ds
theorem XFR:∀ {ds:List D} {i t:Nat} {d:D},lk (env1 i ds) t=some d→i≤t∧ds[t - i]?=some d:=by
 intro ds
 induction ds with
 | nil=>intro i t d h;cases h
 | cons x ds ih =>
  intro i t d h
  rcases X1g h with⟨rfl,rfl⟩ | ⟨h1,h2⟩
  · exact⟨Nat.le_refl _,by simp⟩
  ·
   obtain⟨q1,q2⟩:=ih h2
   refine⟨by omega,?_⟩
   rw [show t - i=(t - (i+1))+1 by omega,List.getElem?_cons_succ];exact q2
def dRes (P:Program) (σ:SD):ResultVar→Option D
 | .tmp t=>lk σ.E t
 | .cell x t=>match lk σ.E x with
  | some (.loc i o)=>match σ.L[i]? with
   | some (.box cs)=>X4g P t cs o
   | _=>none
  | _=>none
def XDI (P:Program) (σ:SD):List ResultVar→Option (List D)
 | []=>some []
 | r::rs=>match dRes P σ r,XDI P σ rs with
  | some d,some ds=>some (d::ds)
  | _,_=>none
def is1:D→Bool
 | .tup _=>false
 | .any=>false
 | .cmp=>false
 | .lit _=>true
 | _=>true
def X6v (P:Program) (rs:Array ResultVar) (σ:SD):Option D :=
 match XDI P σ rs.toList with
 | some [d]=>some d
 | some ds=>match ds.all is1 with
  | true=>some (.tup ds)
  | false=>none
 | none=>none
theorem D1.isOne {M:Nat→Prop} {g:Gh} {a:AH} {d:D} {v:Value} (h:DR M g a d v) (hd:is1 d=true):D1 M g a d v∧X3V v=true:=by
 cases d with
 | tup ds=>cases hd
 | any=>cases hd
 | cmp=>cases hd
 | agg ds=>obtain⟨vs,rfl,h2⟩:=h;exact⟨⟨vs,rfl,h2⟩,rfl⟩
 | clo f ds=>obtain⟨vs,rfl,h2⟩:=h;exact⟨⟨vs,rfl,h2⟩,rfl⟩
 | loc i o=>exact⟨h,by obtain⟨b,k,_,rfl⟩:=h;rfl⟩
 | row j o n c=>exact⟨h,by rcases h with⟨_,_,_,rfl⟩ | ⟨b,k,_,rfl⟩<;>rfl⟩
 | ep e n cs o=>exact⟨h,by obtain⟨b,i,rfl,_⟩:=h;rfl⟩
 | bx cs o=>exact⟨h,by obtain⟨b,rfl,_⟩:=h;rfl⟩
 | lit v =>
  refine⟨h,?_⟩
  cases h with
  | lit h=>cases v<;>first | rfl | cases h
 | _=>exact⟨h,by cases h<;>rfl⟩
theorem XFS {σ:SD} {g:Gh} {s:Env} {a:AH} (S:SR C σ g s a) {r:ResultVar} {d:D} (h:dRes P σ r=some d):∃ v,zRes P s a r=some v∧DR (MM C.M g) g a d v:=by
 cases r with
 | tmp t=>exact⟨_,rfl,S.env t d h⟩
 | cell x t =>
  simp only [dRes]at h
  split at h
  case h_2=>cases h
  rename_i i o hx
  split at h
  case h_2=>cases h
  rename_i cs hL
  obtain⟨b,k,q2,q3⟩:=S.env x _ hx
  obtain⟨b',k',vs,e,r2,r3⟩:=S.obj i _ _ q2 hL
  cases e
  obtain⟨v,t1,t2⟩:=X1h h r2 r3
  exact⟨v,by simp only [zRes,q3];exact t1,t2⟩
theorem X9i {σ:SD} {g:Gh} {s:Env} {a:AH} (S:SR C σ g s a):∀ {rs:List ResultVar} {ds:List D},XDI P σ rs=some ds→∃ vs,XAP P s a rs=some vs∧F2 (DR (MM C.M g) g a) ds vs:=by
 intro rs
 induction rs with
 | nil=>intro ds h;cases h;exact⟨[],rfl,.nil⟩
 | cons r rs ih =>
  intro ds h
  simp only [XDI]at h
  split at h
  ·
   rename_i d ds' h1 h2
   cases h
   obtain⟨v,q1,q2⟩:=XFS S h1
   obtain⟨vs,q3,q4⟩:=ih h2
   exact⟨v::vs,by simp only [XAP,q1,q3],.cons q2 q4⟩
  · cases h
theorem XDJ {σ:SD} {g:Gh} {s:Env} {a:AH} (S:SR C σ g s a) {rs:Array ResultVar} {d:D} (h:X6v P rs σ=some d):∃ v,X7X P rs s a=some v∧DR (MM C.M g) g a d v:=by
 unfold X6v at h
 unfold X7X
 split at h
 ·
  rename_i x hx
  cases h
  obtain⟨vs,q1,q2⟩:=X9i S hx
  cases q2 with
  | cons h1 h2=>cases h2;rw [q1];exact⟨_,rfl,h1⟩
 ·
  rename_i ds hno hx
  split at h
  case h_2=>cases h
  rename_i hall
  cases h
  obtain⟨vs,q1,q2⟩:=X9i S hx
  rw [q1]
  have hall:=List.all_eq_true.1 hall
  have r1:F2 (D1 (MM C.M g) g a) ds vs:=q2.mono_mem fun d hd v r=>(D1.isOne r (hall d hd)).1
  have r2:vs.all X3V=true:=by
   refine List.all_eq_true.2 fun v hv=>?_
   obtain⟨i,hi⟩:=List.mem_iff_getElem?.1 hv
   have hil:i<ds.length:=by rw [q2.length];exact(List.getElem?_eq_some_iff.1 hi).1
   obtain⟨u,hu,ru⟩:=q2.get i ds[i] (List.getElem?_eq_getElem hil)
   rw [hi]at hu;cases hu
   exact(D1.isOne ru (hall _ (List.getElem_mem hil))).2
  split
  ·
   rename_i u hv
   cases hv
   have:=q2.length
   simp at this
   obtain⟨x,rfl⟩:=List.length_eq_one_iff.1 this
   exact absurd rfl (hno x)
  ·
   rename_i us _ hv
   cases hv
   rw [r2]
   exact⟨_,rfl,vs,rfl,r1⟩
  · rename_i hv;cases hv
 · cases h
def XDK (P:Program) (rs:Array ResultVar) (n0:Nat) (Q:D→List Ob→Prop) (σ:SD):Prop :=
 ∃ r k,X6v P rs σ=some r∧n0≤k∧k≤σ.L.length∧closedB k [(0,r)] (σ.L.take k)=true∧Q r (σ.L.take k)
def XGe (P:Program) (rs:Array ResultVar) (n0:Nat) (Q:D→List Ob→Prop):X4E:=⟨XDK P rs n0 Q,fun _ _=>False,XDK P rs n0 Q⟩
theorem FnD.intro {f:FuncId} {args:List D} {L:List Ob} {Q:D→List Ob→Prop} {fn:Func} {c:Code} (hov:ov f=none) (hfn:P.funcs[f]?=some fn) (hc:fn.body=some c) (hn:Nat.blt (max fn.ntmps args.length) 1000000=true)
  (h:∀ M a0 g0,g0.length=L.length→CD P ov ⟨max fn.ntmps args.length,M,a0,g0,fun i=>∃ cs,L[i]?=some (.box cs)⟩ c ⟨env1 0 args,L⟩ (XGe P fn.results L.length Q)):FnD P ov f args L Q:=by
 intro M g a vs ok old hlen nd hcl hobj hargs
 have hl:args.length=vs.length:=hargs.length
 refine Fn.intro hov hfn hc (by rw [← hl];exact hn) ?_
 have S:SR ⟨max fn.ntmps args.length,M,a,g,fun i=>∃ cs,L[i]?=some (.box cs)⟩ ⟨env1 0 args,L⟩ g (env0 vs) a:=by
  refine⟨ok,old,fun t d e=>?_,hlen,Nat.le_refl _,hobj,nd,fun k hk=>⟨(hcl k hk).1,(hcl k hk).2,.inl hk⟩,X1C.refl _ _,ok,fun i b k cs h1 _=>h1,fun i cs _ h=>⟨cs,h⟩⟩
  obtain⟨_,q2⟩:=XFR e
  rw [Nat.sub_zero]at q2
  obtain⟨v,q3,q4⟩:=hargs.get t d q2
  show DR _ _ _ d ((vs[t]?).getD undef)
  rw [q3];exact q4.dr
 rw [← hl]
 have fin:∀ s a',X7N ⟨max fn.ntmps args.length,M,a,g,fun i=>∃ cs,L[i]?=some (.box cs)⟩ (XDK P fn.results L.length Q) s a'→∃ v,X7X P fn.results s a'=some v∧∃ r L' g',DR (MM M g') g' a' r v∧g'.length=L'.length∧L.length≤L'.length∧g'.cls.Nodup∧(∀ k∈g'.cls,¬ M k∧k<a'.next∧(k∈g.cls∨a.next≤k)) ∧
   (∀ (i:Nat) x o,g'[i]?=some x→L'[i]?=some o→ObR (MM M g') g' a' x o)∧X1C (·∈g.cls) a a'∧a'.ok∧(∀ (i b k:Nat) cs,g[i]?=some (some (b,k))→L'[i]?=some (.box cs)→g'[i]?=some (some (b,k)))∧(∀ (i:Nat) cs,i<L.length→L'[i]?=some (.box cs)→∃ cs0,L[i]?=some (.box cs0))∧Q r L':=by
  rintro s a' ⟨σ,g',S',r,k,hr,hk,hkl,hcb,q⟩
  obtain⟨v,q1,q2⟩:=XDJ S' hr
  refine⟨v,q1,r,σ.L.take k,g'.take k,?_⟩
  have S2:SR ⟨max fn.ntmps args.length,M,a,g,fun i=>∃ cs,L[i]?=some (.box cs)⟩ ⟨[(0,r)],σ.L⟩ g' (fun _=>v) a':=⟨S'.ok,S'.old,(fun t d e=>by
   rcases X1g e with⟨rfl,rfl⟩ | ⟨_,h2⟩
   · exact q2
   · cases h2),S'.len,S'.pl,S'.obj,S'.nd,S'.nm,S'.kp,S'.ok0,S'.pre,S'.pk⟩
  have T:=S2.trunc (k:=k) (by show g.length≤k;omega) hcb
  exact⟨T.env 0 r (X0x ..),T.len,by simp;omega,T.nd,T.nm,T.obj,T.kp,T.ok,T.pre,fun i cs h1 h2=>T.pk i cs (by show i<g.length;omega) h2,q⟩
 exact(h M a g hlen g _ a S).mono (fun s a' k=>fin s a' k) (fun i s a' ⟨_,_,_,k⟩=>k) fun s a' k=>fin s a' k
theorem FnD.mono {f:FuncId} {args:List D} {L:List Ob} {Q R:D→List Ob→Prop} (h:FnD P ov f args L Q) (k:∀ d L',Q d L'→R d L'):FnD P ov f args L R:=by
 intro M g a vs h1 h2 h3 h4 h5 h6 h7
 exact(h M g a vs h1 h2 h3 h4 h5 h6 h7).mono fun v a' ⟨r,L',g',q1,q2,q3,q4,q5,q6,q7,q8,q9,q11,q10⟩=>⟨r,L',g',q1,q2,q3,q4,q5,q6,q7,q8,q9,q11,k _ _ q10⟩
abbrev X2G (P:Program) (ov:Ov) (f:FuncId) (args:List D) (r:D):Prop:=FnD P ov f args [] fun r' L'=>r'=r∧L'=[]
def zdL (E:X0m):List Operand→Option (List D)
 | []=>some []
 | x::xs=>match zd E x,zdL E xs with
  | some d,some ds=>match is1 d with
   | true=>some (d::ds)
   | false=>none
  | _,_=>none
theorem X9j {σ:SD} {g:Gh} {s:Env} {a:AH} (S:SR C σ g s a):∀ {xs:List Operand} {ds:List D},zdL σ.E xs=some ds→∃ vs,X3i s xs=some vs∧F2 (D1 (MM C.M g) g a) ds vs:=by
 intro xs
 induction xs with
 | nil=>intro ds h;cases h;exact⟨[],rfl,.nil⟩
 | cons x xs ih =>
  intro ds h
  simp only [zdL]at h
  split at h
  ·
   rename_i d ds' h1 h2
   split at h
   case h_2=>cases h
   rename_i hd
   cases h
   obtain⟨v,q1,q2⟩:=X0C S h1
   obtain⟨vs,q3,q4⟩:=ih h2
   exact⟨v::vs,by simp only [X3i,q1,q3],.cons (D1.isOne q2 hd).1 q4⟩
  · cases h
def X7d (d:D):Bool:=match X2U d with
 | []=>true
 | _=>false
theorem OD.callP {ops:Array Oper} {dst:Option Nat} {x:Operand} {args:Array Operand} {ats:Array TypeId} {ty:TypeId} {pos:String} {after:Array Edge} {l:List Oper} {E:X0m} {L:List Ob} {f:FuncId} {ds:List D} {R:D→Prop} {q:SD→Prop}
  (hx:zd E x=some (.fn f)) (hl:zdL E args.toList=some ds) (hr:ds.all X7d=true) (hb:X1z P f=true) (hf:FnD P ov f ds [] fun r L'=>R r∧L'=[])
  (h:∀ r,R r→OD P ov C ops l ⟨pt C.nt E dst r,L⟩ q):OD P ov C ops (⟨dst,.call ⟨.value x,args,ats⟩,ty,pos,after,none⟩::l) ⟨E,L⟩ q:=by
 intro g s a S
 obtain⟨v,q1,q2⟩:=X0C S hx
 cases q2
 obtain⟨vs,q3,q4⟩:=X9j S hl
 have hm0:∀ k,MM (MM C.M g) [] k→MM C.M g k:=fun k m=>by
  rcases m with m | m
  · exact m
  · cases m
 have hargs:F2 (D1 (MM (MM C.M g) []) [] a) ds vs:=q4.mono_mem fun d hd v r=>by
  refine D1.monoR (X1C.refl (fun _=>False) a) (fun _ f=>f.elim) (fun k _ m=>hm0 k m) (fun i hi=>?_) r
  have:=List.all_eq_true.1 hr d hd
  unfold X7d at this
  split at this
  · rename_i e;rw [e]at hi;cases hi
  · cases this
 have F:=hf (MM C.M g) [] a vs S.ok (fun k m=>S.mmlt m) rfl .nil (fun k hk=>by cases hk) (fun i x o e=>by simp at e) hargs
 refine X31.cons S.kp (fun _ _=>rfl) (X4e.call rfl q1 q3 hb (fi:=#[]) (ca:=#[]) ?_)
 simp only [List.nil_append,List.append_nil]
 refine F.mono fun u a' hu=>?_
 obtain⟨r,L',g',r1,r2,r3,r4,r5,r6,r7,r8,r9,r10,rR,rfl⟩:=hu
 have hg':g'=[]:=List.length_eq_zero_iff.1 r2
 subst hg'
 have K:X1C (fun _=>False) a a':=r7.weak fun k hk=>by cases hk
 have S':SR C ⟨E,L⟩ g s a':=S.heap' K (fun _ f=>f.elim) r8 (Gh.On.refl _) S.len (fun k hk=>.inl hk) S.nd (fun i x o h1 h2=>(S.obj i x o h1 h2).monoR K (fun _ f=>f.elim) (fun _ _ m=>m) (Gh.On.refl _) fun _ _ _ f=>f) fun i cs e=>.inr ⟨cs,e⟩
 have hr':DR (MM C.M g) g a' r u:=DR.mono (X1C.refl (fun _=>False) a') (fun _ f=>f.elim) (fun k _ m=>.inl m) (fun i x e=>by simp at e) r1
 exact h r rR g _ a' (S'.put hr' dst)
end
end Go.Vai
namespace Go.Vai
noncomputable section
variable {P:Program} {ov:Ov} {C:Cx0}
variable {ops:Array Oper} {dst:Option Nat} {ty:TypeId} {pos:String} {after:Array Edge} {l:List Oper} {E:X0m} {L:List Ob} {q:SD→Prop}
theorem OD.callE {x:Operand} {args:Array Operand} {ats:Array TypeId} {f:FuncId} {ds:List D} {r:D}
  (hf:X2G P ov f ds r) (hx:zd E x=some (.fn f)) (hl:zdL E args.toList=some ds) (hr:ds.all X7d=true) (hb:X1z P f=true)
  (h:OD P ov C ops l ⟨pt C.nt E dst r,L⟩ q):OD P ov C ops (⟨dst,.call ⟨.value x,args,ats⟩,ty,pos,after,none⟩::l) ⟨E,L⟩ q :=
 OD.callP hx hl hr hb hf fun r' e=>by subst e;exact h
theorem OD.runE (k:Nat) (live:List Nat) {E':X0m} (h:XGc P C.nt ops (l.take k) E L live=some (E',L)) (hq:OD P ov C ops (l.drop k) ⟨E',L⟩ q):OD P ov C ops l ⟨E,L⟩ q:=OD.run k live h hq
theorem X36 {rs:Array ResultVar} {σ:SD} {r r0:D} (h:X6v P rs σ=some r) (hc:closedB 0 [(0,r)] []=true) (e:r=r0):XDK P rs 0 (fun r' L'=>r'=r0∧L'=[]) σ:=⟨r,0,h,Nat.le_refl _,Nat.zero_le _,hc,e,rfl⟩
theorem OD.guard {op:Op} {j t:Nat} {w:Bool} (hd:X8a ops j=some t) (hb:lk E t=some (.bool w)) (h:OD P ov C ops (⟨dst,op,ty,pos,after,none⟩::l) ⟨E,L⟩ q):OD P ov C ops (⟨dst,op,ty,pos,after,some (j,w)⟩::l) ⟨E,L⟩ q:=by
 intro g s a S
 have hb':s t=.bool w:=X6s (S.env t _ hb)
 refine X31.guard S.kp hd hb' (fun _=>h g s a S) fun e=>?_
 cases w<;>cases e
theorem wr64 {z:Int} (h0 : -9223372036854775808≤z) (h1:z<9223372036854775808):D.int .i64 (X0X .i64 z)=.int .i64 z:=by rw [wrap64 h0 h1]
theorem wr8 {z:Int} (h0:0≤z) (h1:z<256):D.int .u8 (X0X .u8 z)=.int .u8 z:=by rw [wrap8 h0 h1]
theorem XFT {k:IntKind} {a b:Nat}:D.int k (min (a:Int) (b:Int))=.int k ((min a b:Nat):Int):=by congr 1;omega
theorem wrn {z:Int} {m:Nat} (e:z=m) (h:m<9223372036854775808):D.int .i64 (X0X .i64 z)=.int .i64 (m:Int):=by rw [wrap64 (by omega) (by omega),e]
theorem ndt {p:Prop} [Decidable p] (h:(!decide p)=true):¬ p:=by simpa using h
theorem ndf {p:Prop} [Decidable p] (h:(!decide p)=false):p:=by simpa using h
theorem XES {b:Bool} (h:(!b)=true):b=false:=by simpa using h
theorem XDL {b:Bool} (h:(!b)=false):b=true:=by simpa using h
theorem OD.plain {op:Op} {d:D} (h1:∀ g s a,SR C ⟨E,L⟩ g s a→∃ v,X0P P op ty s a=some (v,a)∧DR (MM C.M g) g a d v) (h:OD P ov C ops l ⟨pt C.nt E dst d,L⟩ q):OD P ov C ops (⟨dst,op,ty,pos,after,none⟩::l) ⟨E,L⟩ q:=by
 intro g s a S
 obtain⟨v,e,r⟩:=h1 g s a S
 exact X31.cons S.kp (fun _ _=>rfl) (X4e.plain e (h g _ a (S.put r dst)))
def X2s (P:Program) (t:TypeId):Option Nat:=match P.underlying t with
 | some (.slice elem)=>sz P elem
 | _=>none
theorem X2W {t:TypeId} {e:Nat} (h:X2s P t=some e):∃ elem,P.underlying t=some (.slice elem)∧sz P elem=some e:=by
 unfold X2s at h
 split at h
 · exact⟨_,by assumption,h⟩
 · cases h
theorem OD.idx {t:TypeId} {x y:Operand} {e n:Nat} {cs:List D} {k:IntKind} {z:Int} (hx:zd E x=some (.sl e n cs)) (hy:zd E y=some (.int k z)) (ht:X2s P t=some e) (h0:0≤z) (h1:z<n)
  (h:OD P ov C ops l ⟨pt C.nt E dst (.ep e n cs (z.toNat*e)),L⟩ q):OD P ov C ops (⟨dst,.indexAddr t x y,ty,pos,after,none⟩::l) ⟨E,L⟩ q:=by
 refine OD.plain (fun g s a S=>?_) h
 obtain⟨elem,hu,hs⟩:=X2W ht
 obtain⟨vx,q1,q2⟩:=X0C S hx
 obtain⟨vy,p1,p2⟩:=X0C S hy
 cases p2
 rcases CR.sl_inv q2 with⟨rfl,_,_⟩ | ⟨b,i,c,rfl,hc,hsl⟩
 · omega
 ·
  refine⟨.pointer (some ⟨b,i+z.toNat*e,none⟩),?_,b,i,rfl,hsl⟩
  simp only [X0P,q1,p1]
  refine X0E ?_
  simp only [X1m,hu,hs,decide_eq_true h0,decide_eq_true h1,Bool.and_self]
theorem OD.ldA {t:TypeId} {x:Operand} {e n o m:Nat} {cs ds:List D} (hx:zd E x=some (.ep e n cs o)) (ha:X2u P t=some true) (hs:sz P t=some m) (hd:(cs.drop o).take m=ds) (hm:ds.length=m) (h0:0<m)
  (h:OD P ov C ops l ⟨pt C.nt E dst (.agg ds),L⟩ q):OD P ov C ops (⟨dst,.load t x,ty,pos,after,none⟩::l) ⟨E,L⟩ q:=by
 refine OD.plain (fun g s a S=>?_) h
 obtain⟨vx,q1,b,i,rfl,q2⟩:=X0C S hx
 obtain⟨B,h1,h2,h3,h4,h5,h6,h7⟩:=q2.ex
 have hlen:o+m≤cs.length:=by
  rw [← hd,List.length_take,List.length_drop]at hm;omega
 refine⟨.agg ((B.l.drop (i+o)).take m).toArray,?_,_,rfl,?_⟩
 ·
  simp only [X0P,q1]
  refine X0E ?_
  simp only [X3t,ha,hs]
  rw [X6E h1 (by omega)]
 ·
  subst hd
  refine F2.of_get (by simp;omega) fun j d v e1 e2=>?_
  rw [List.getElem?_take]at e1 e2
  split at e1
  case isFalse=>cases e1
  rename_i hj
  rw [if_pos hj,List.getElem?_drop]at e2
  rw [List.getElem?_drop]at e1
  obtain⟨u,r1,r2⟩:=h7 _ _ e1
  rw [← Nat.add_assoc]at r1
  rw [r1]at e2
  cases e2
  exact r2.dl
theorem OD.ldL {t:TypeId} {x:Operand} {e n o:Nat} {cs:List D} {d:D} (hx:zd E x=some (.ep e n cs o)) (ha:X2u P t=some false) (hd:cs[o]?=some d)
  (h:OD P ov C ops l ⟨pt C.nt E dst d,L⟩ q):OD P ov C ops (⟨dst,.load t x,ty,pos,after,none⟩::l) ⟨E,L⟩ q:=by
 refine OD.plain (fun g s a S=>?_) h
 obtain⟨vx,q1,b,i,rfl,q2⟩:=X0C S hx
 obtain⟨B,h1,h2,h3,h4,h5,h6,h7⟩:=q2.ex
 obtain⟨u,r1,r2⟩:=h7 _ _ hd
 refine⟨u,?_,r2.dl.dr⟩
 simp only [X0P,q1]
 refine X0E ?_
 simp only [X3t,ha]
 rw [XFI h1,← r1]
theorem X7e {α:Type} {enc:α→List D} {e:Nat} (he:∀ x,(enc x).length=e):∀ {xs:List α} {i:Nat} {x:α},xs[i]?=some x→((xs.flatMap enc).drop (i*e)).take e=enc x:=by
 intro xs
 induction xs with
 | nil=>intro i x h;simp at h
 | cons y xs ih =>
  intro i x h
  cases i with
  | zero =>
   simp only [List.getElem?_cons_zero,Option.some.injEq]at h
   subst h
   simp only [Nat.zero_mul,List.drop_zero,List.flatMap_cons]
   rw [List.take_append_of_le_length (by rw [he];exact Nat.le_refl _),List.take_of_length_le (by rw [he];exact Nat.le_refl _)]
  | succ i =>
   simp only [List.getElem?_cons_succ]at h
   rw [List.flatMap_cons,show(i+1)*e=(enc y).length+i*e by rw [he,Nat.add_mul];omega,← List.drop_drop,List.drop_left]
   exact ih h
theorem XDM {α:Type} {enc:α→List D} {e:Nat} (he:∀ x,(enc x).length=e) (xs:List α):(xs.flatMap enc).length=xs.length*e:=by
 induction xs with
 | nil=>simp
 | cons y xs ih=>rw [List.flatMap_cons,List.length_append,he,ih,List.length_cons,Nat.add_mul];omega
end
end Go.Vai
namespace Go.Vai
open Go.RowKit
noncomputable section
def a0:AH:=⟨fun _=>none,fun _=>none,1000⟩
end
end Go.Vai

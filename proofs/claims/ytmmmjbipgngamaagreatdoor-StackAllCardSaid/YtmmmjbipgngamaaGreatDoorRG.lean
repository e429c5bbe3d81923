/-
  What is proved here: rules for rows that grow, for rows that become data, for regions that leave their order open (part RG). No conditions.
-/
import Derived.Test.YtmmmjbipgngamaaGreatDoorRF
set_option linter.unusedVariables false
set_option linter.unusedSimpArgs false
namespace Go.Vai
noncomputable section
variable {P:Program} {ov:Ov} {C:Cx0}
variable {ops:Array Oper} {dst:Option Nat} {ty:TypeId} {pos:String} {after:Array Edge} {l:List Oper} {E:X0m} {L:List Ob} {q:SD→Prop}
def X1X (j:Nat):D→D
 | .loc i o=>bif Nat.beq i j then .cmp else .loc i o
 | .row i o n c=>bif Nat.beq i j then .cmp else .row i o n c
 | d=>d
def X2y (j:Nat):D→D
 | .agg ds=>.agg (ds.map (X1X j))
 | .clo f ds=>.clo f (ds.map (X1X j))
 | d=>X1X j d
def X5E (j:Nat):D→D
 | .tup ds=>.tup (ds.map (X2y j))
 | d=>X2y j d
def X3a (j:Nat) (E:X0m):X0m:=E.map fun p=>(p.1,X5E j p.2)
def XGf (j:Nat):Ob→Ob
 | .box cs=>.box (cs.map (X1X j))
 | o=>o
def X37 (j:Nat) (L:List Ob):List Ob:=L.map (XGf j)
theorem X38 {i j:Nat} (h:i≠j):Nat.beq i j=false:=by
 cases e:Nat.beq i j with
 | false=>rfl
 | true=>exact absurd (Nat.eq_of_beq_eq_true e) h
theorem XBY {M:Nat→Prop} {g:Gh} {a:AH} {i o:Nat} {v:Value} (h:DL M g a (.loc i o) v):DL M g a .cmp v:=by
 obtain⟨b,k,_,rfl⟩:=h;exact⟨by simp [X1V],fun _ e=>by cases e⟩
theorem XBZ {M:Nat→Prop} {g:Gh} {a:AH} {i o n c:Nat} {v:Value} (h:DL M g a (.row i o n c) v):DL M g a .cmp v:=by
 rcases h with⟨_,_,_,rfl⟩ | ⟨b,k,_,rfl⟩
 · exact⟨by simp [X1V],fun _ e=>by cases e⟩
 · exact⟨by simp [X1V],fun _ e=>by cases e⟩
theorem X9k {M:Nat→Prop} {g:Gh} {a:AH} {d:D} {v:Value} (j:Nat) (h:DL M g a d v):DL M g a (X1X j d) v∧j ∉ X1I (X1X j d):=by
 cases d with
 | loc i o =>
  by_cases e:i=j
  · subst e;simp only [X1X,Nat.beq_refl,cond_true];exact⟨XBY h,by simp [X1I]⟩
  · simp only [X1X,X38 e,cond_false];exact⟨h,by simp [X1I];exact fun x=>e x.symm⟩
 | row i o n c =>
  by_cases e:i=j
  · subst e;simp only [X1X,Nat.beq_refl,cond_true];exact⟨XBZ h,by simp [X1I]⟩
  · simp only [X1X,X38 e,cond_false];exact⟨h,by simp [X1I];exact fun x=>e x.symm⟩
 | _=>exact⟨h,by simp [X1X,X1I]⟩
theorem F2.map1 {M:Nat→Prop} {g:Gh} {a:AH} {ds:List D} {vs:List Value} (j:Nat) (h:F2 (DL M g a) ds vs):F2 (DL M g a) (ds.map (X1X j)) vs:=by
 induction h with
 | nil=>exact .nil
 | cons h t ih=>exact .cons (X9k j h).1 ih
theorem X9l {M:Nat→Prop} {g:Gh} {a:AH} {d:D} {v:Value} (j:Nat) (h:D1 M g a d v):D1 M g a (X2y j d) v:=by
 rcases X3N d with⟨ds,rfl⟩ | ⟨f0,ds,rfl⟩ | e
 · obtain⟨vs,h1,h2⟩:=h;exact⟨vs,h1,h2.map1 j⟩
 · obtain⟨vs,h1,h2⟩:=h;exact⟨vs,h1,h2.map1 j⟩
 ·
  rw [e]at h
  have:X2y j d=X1X j d:=by
   cases d with
   | agg ds=>exact absurd (e M g a v) (fun x=>by have h':DL M g a (.agg ds) v:=h;cases h')
   | clo f ds=>exact absurd (e M g a v) (fun x=>by have h':DL M g a (.clo f ds) v:=h;cases h')
   | _=>rfl
  rw [this];exact(X9k j h).1.d1
theorem XDN {M:Nat→Prop} {g:Gh} {a:AH} {d:D} {v:Value} (j:Nat) (h:DR M g a d v):DR M g a (X5E j d) v:=by
 rcases X3w d with⟨ds,rfl⟩ | e
 ·
  obtain⟨vs,h1,h2⟩:=h
  refine⟨vs,h1,?_⟩
  induction h2 generalizing v with
  | nil=>exact .nil
  | cons h t ih=>exact .cons (X9l j h) (ih rfl)
 ·
  rw [e]at h
  have:X5E j d=X2y j d:=by
   cases d with
   | tup ds=>have h':CR M a (.tup ds) v:=h;cases h'
   | _=>rfl
  rw [this];exact(X9l j h).dr
theorem no1 (j:Nat) (d:D):j ∉ X1I (X1X j d):=by
 cases d with
 | loc i o =>
  by_cases e:i=j
  · subst e;simp [X1X,X1I]
  · simp only [X1X,X38 e,cond_false,X1I,List.mem_singleton];exact fun x=>e x.symm
 | row i o n c =>
  by_cases e:i=j
  · subst e;simp [X1X,X1I]
  · simp only [X1X,X38 e,cond_false,X1I,List.mem_singleton];exact fun x=>e x.symm
 | _=>simp [X1X,X1I]
theorem no2 (j:Nat) (d:D):j ∉ X2U (X2y j d):=by
 cases d with
 | agg ds =>
  simp only [X2y,X2U,List.mem_flatMap,List.mem_map]
  rintro⟨x,⟨y,hy,rfl⟩,hx⟩
  exact no1 j y hx
 | clo f ds =>
  simp only [X2y,X2U,List.mem_flatMap,List.mem_map]
  rintro⟨x,⟨y,hy,rfl⟩,hx⟩
  exact no1 j y hx
 | loc i o =>
  have:=no1 j (.loc i o)
  by_cases e:i=j
  · subst e;simp [X2y,X1X,X2U,X1I]
  · simp only [X2y,X1X,X38 e,cond_false,X2U,X1I,List.mem_singleton];exact fun x=>e x.symm
 | row i o n c =>
  by_cases e:i=j
  · subst e;simp [X2y,X1X,X2U,X1I]
  · simp only [X2y,X1X,X38 e,cond_false,X2U,X1I,List.mem_singleton];exact fun x=>e x.symm
 | _=>simp [X2y,X1X,X2U,X1I]
theorem noD (j:Nat) (d:D):j ∉ XCj (X5E j d):=by
 cases d with
 | tup ds =>
  simp only [X5E,XCj,List.mem_flatMap,List.mem_map]
  rintro⟨x,⟨y,hy,rfl⟩,hx⟩
  exact no2 j y hx
 | agg ds=>exact no2 j (.agg ds)
 | clo f ds=>exact no2 j (.clo f ds)
 | loc i o =>
  by_cases e:i=j
  · subst e;simp [X5E,X2y,X1X,XCj,X2U,X1I]
  · simp only [X5E,X2y,X1X,X38 e,cond_false,XCj,X2U,X1I,List.mem_singleton];exact fun x=>e x.symm
 | row i o n c =>
  by_cases e:i=j
  · subst e;simp [X5E,X2y,X1X,XCj,X2U,X1I]
  · simp only [X5E,X2y,X1X,X38 e,cond_false,XCj,X2U,X1I,List.mem_singleton];exact fun x=>e x.symm
 | _=>simp [X5E,X2y,X1X,XCj,X2U,X1I]
theorem XDO {j:Nat}:∀ {E:X0m} {t:Nat} {d:D},lk (X3a j E) t=some d→∃ x,lk E t=some x∧d=X5E j x:=by
 intro E
 induction E with
 | nil=>intro t d h;cases h
 | cons p E ih =>
  obtain⟨u,x⟩:=p
  intro t d h
  rcases X1g (r:=X3a j E) h with⟨rfl,rfl⟩ | ⟨h1,h2⟩
  · exact⟨x,X0x ..,rfl⟩
  ·
   obtain⟨y,q1,q2⟩:=ih h2
   exact⟨y,by rw [X0q _ _ h1];exact q1,q2⟩
theorem XBa {j:Nat} {g:Gh} {x:Option (Nat×Nat)} {l:List Nat} (h:j ∉ l):OnR l g (g.set j x):=fun i hi y e=>by
 rw [List.getElem?_set_ne (by rintro rfl;exact h hi)];exact e
theorem XGg {x':Option (Nat×Nat)}:∀ (g:Gh) (j:Nat),g.cls.Nodup→(∀ b k,x'=some (b,k)→∀ (i b':Nat),i≠j→g[i]?=some (some (b',k))→False)→(Gh.cls (g.set j x')).Nodup:=by
 intro g
 induction g with
 | nil=>intro j nd _;simpa using nd
 | cons y g ih =>
  intro j nd h
  cases j with
  | zero =>
   rw [List.set_cons_zero,Gh.cls_cons]
   rw [Gh.cls_cons]at nd
   have nd2:(Gh.cls g).Nodup:=by
    cases y with
    | none=>exact nd
    | some y=>exact(List.nodup_cons.1 nd).2
   cases x' with
   | none=>exact nd2
   | some z =>
    obtain⟨b,k⟩:=z
    refine List.nodup_cons.2 ⟨fun hk=>?_,nd2⟩
    obtain⟨i,b',e⟩:=Gh.mem_cls.1 hk
    exact h b k rfl (i+1) b' (by omega) (by simpa using e)
  | succ j =>
   rw [List.set_cons_succ,Gh.cls_cons]
   rw [Gh.cls_cons]at nd
   have h':∀ b k,x'=some (b,k)→∀ i b',i≠j→g[i]?=some (some (b',k))→False:=fun b k e i b' hi e'=>h b k e (i+1) b' (by omega) (by simpa using e')
   cases y with
   | none=>exact ih j nd h'
   | some y =>
    obtain⟨h1,h2⟩:=List.nodup_cons.1 nd
    refine List.nodup_cons.2 ⟨fun hk=>?_,ih j h2 h'⟩
    obtain⟨i,b',e⟩:=Gh.mem_cls.1 hk
    by_cases hi:i=j
    ·
     subst hi
     rw [List.getElem?_set]at e
     split at e
     ·
      split at e
      ·
       cases e
       exact h b' y.2 rfl 0 y.1 (by omega) (by simp)
      · cases e
     · rename_i hh;exact hh rfl
    ·
     rw [List.getElem?_set_ne (fun q=>hi q.symm)]at e
     exact h1 (Gh.mem_cls.2 ⟨i,b',e⟩)
theorem SR.relay {g:Gh} {s:Env} {a a':AH} (S:SR C ⟨E,L⟩ g s a) {W:Nat→Prop} {j:Nat} {x':Option (Nat×Nat)} {o':Ob} (K:X1C W a a') (hw:∀ k,W k→∃ b,g[j]?=some (some (b,k))) (ok':a'.ok) (hj:j<g.length)
  (hc:∀ b k,x'=some (b,k)→(∃ b',g[j]?=some (some (b',k)))∨(a.next≤k∧k<a'.next)) (ho:ObR (MM C.M (g.set j x')) (g.set j x') a' x' o') (hnb:∀ cs,o'≠.box cs) :
  SR C ⟨X3a j E,X37 j (L.set j o')⟩ (g.set j x') s a':=by
 have hjL:j<L.length:=by have:g.length=L.length:=S.len;omega
 have hw':∀ k,W k→k∈g.cls:=fun k w=>by obtain⟨b,e⟩:=hw k w;exact Gh.mem_cls.2 ⟨j,b,e⟩
 have hcls:∀ k∈Gh.cls (g.set j x'),k∈g.cls∨(a.next≤k∧k<a'.next):=by
  intro k hk
  obtain⟨i,b,e⟩:=Gh.mem_cls.1 hk
  by_cases hi:i=j
  ·
   subst hi
   rw [List.getElem?_set_self hj]at e
   cases e
   rcases hc b k rfl with⟨b',e⟩ | e
   · exact .inl (Gh.mem_cls.2 ⟨i,b',e⟩)
   · exact .inr e
  ·
   rw [List.getElem?_set_ne (fun q=>hi q.symm)]at e
   exact .inl (Gh.mem_cls.2 ⟨i,b,e⟩)
 have hm:∀ k,k<a.next→MM C.M (g.set j x') k→MM C.M g k:=S.mm hcls
 have nd':(Gh.cls (g.set j x')).Nodup:=by
  refine XGg g j S.nd fun b k e i b' hi e'=>?_
  rcases hc b k e with⟨b'',e2⟩ | e2
  · exact hi (Gh.inj S.nd e' e2)
  ·
   have:=(S.nm k (Gh.mem_cls.2 ⟨i,b',e'⟩)).2.1
   omega
 refine S.heap K hw' ok' (by simp [X37];exact S.len) (by simp) hcls nd' (fun t d e=>?_) (fun i x o h1 h2=>?_) fun i cs h=>?_
 ·
  obtain⟨y,q1,rfl⟩:=XDO e
  exact DR.monoR K (fun k w=>.inr (hw' k w)) hm (XBa (noD j y)) (XDN j (S.env t y q1))
 ·
  unfold X37 at h2
  rw [List.getElem?_map]at h2
  by_cases hi:i=j
  ·
   subst hi
   rw [List.getElem?_set_self hj]at h1
   rw [List.getElem?_set_self hjL]at h2
   cases h1
   simp only [Option.map_some,Option.some.injEq]at h2
   subst h2
   cases o' with
   | box cs=>exact absurd rfl (hnb cs)
   | row e n cs=>exact ho
   | dead=>exact ho
  ·
   rw [List.getElem?_set_ne (fun q=>hi q.symm)]at h1 h2
   obtain⟨o0,r1,r2⟩:=Option.map_eq_some_iff.1 h2
   subst r2
   have O:=S.obj i x o0 h1 r1
   have hxW:∀ b k,x=some (b,k)→¬ W k:=fun b k e w=>by
    subst e
    obtain⟨b',e'⟩:=hw k w
    exact hi (Gh.inj S.nd h1 e')
   cases o0 with
   | box cs =>
    obtain⟨b,k,vs,rfl,p1,p2⟩:=O
    refine⟨b,k,vs,rfl,K.blk _ _ p1 (hxW b k rfl),(p2.map1 j).mono_mem fun d hd v r=>DL.monoR K (fun k w=>.inr (hw' k w)) hm (XBa ?_) r⟩
    obtain⟨y,_,rfl⟩:=List.mem_map.1 hd
    exact no1 j y
   | row e n cs =>
    obtain⟨hl,O⟩:=O
    refine⟨hl,?_⟩
    rcases O with O | ⟨b,k,vs,rfl,p1,p2⟩
    · exact .inl O
    · exact .inr ⟨b,k,vs,rfl,K.blk _ _ p1 (hxW b k rfl),p2.mono fun _ _ r=>r.mono K (fun k w=>.inr (hw' k w)) hm⟩
   | dead=>exact O
 ·
  unfold X37 at h
  rw [List.getElem?_map]at h
  obtain⟨o0,r1,r2⟩:=Option.map_eq_some_iff.1 h
  by_cases hi:i=j
  ·
   subst hi
   rw [List.getElem?_set_self hjL]at r1
   cases r1
   cases o' with
   | box cs=>exact absurd rfl (hnb cs)
   | row e n cs=>cases r2
   | dead=>cases r2
  ·
   rw [List.getElem?_set_ne (fun q=>hi q.symm)]at r1
   cases o0 with
   | box cs0=>exact .inr ⟨⟨cs0,r1⟩,fun x e=>by rw [List.getElem?_set_ne (fun q=>hi q.symm)];exact e⟩
   | row e n cs=>cases r2
   | dead=>cases r2
theorem SR.nilRow {g:Gh} {s:Env} {a:AH} (S:SR C ⟨E,L⟩ g s a) (e:Nat):SR C ⟨E,L++[.row e 0 []]⟩ (g++[none]) s a:=by
 have hcls:Gh.cls (g++[none])=g.cls:=by rw [Gh.cls_app];simp [Gh.cls]
 refine S.heap' (X1C.refl (fun _=>False) a) (fun _ f=>f.elim) S.ok (Gh.On.app _ _) (by simp [S.len]) (fun k hk=>by rw [hcls]at hk;exact .inl hk) (by rw [hcls];exact S.nd) (fun i x o h1 h2=>?_) fun i cs h=>?_
 ·
  have hm:∀ k,k<a.next→MM C.M (g++[none]) k→MM C.M g k:=fun k _ m=>by rcases m with m | m;exact .inl m;rw [hcls]at m;exact .inr m
  rcases X0y h1 with h3 | ⟨h3,rfl⟩
  ·
   have hi:=(List.getElem?_eq_some_iff.1 h3).1
   rcases X0y h2 with h4 | ⟨h4,rfl⟩
   · exact(S.obj i x o h3 h4).monoR (X1C.refl (fun _=>False) a) (fun _ f=>f.elim) hm (Gh.On.app _ _) (fun _ _ _ f=>f)
   · have:g.length=L.length:=S.len;omega
  ·
   rcases X0y h2 with h4 | ⟨h4,rfl⟩
   · have:=(List.getElem?_eq_some_iff.1 h4).1;have:g.length=L.length:=S.len;omega
   · exact⟨by simp,.inl ⟨rfl,rfl⟩⟩
 ·
  rcases X0y h with h | ⟨_,h⟩
  · exact .inr ⟨cs,h⟩
  · cases h
theorem X1i {M:Nat→Prop} {g:Gh} {a:AH} {u v:Value} (h:DR M g a (.lit u) v):v=u:=by cases h;rfl
theorem OD.nilRow (t e:Nat) (hl:lk E t=some (.lit (.slice none 0 0))) (h:OD P ov C ops l ⟨setv t (.row L.length 0 0 0) E,L++[.row e 0 []]⟩ q):OD P ov C ops l ⟨E,L⟩ q:=fun g s a S=>by
 refine h _ s a ((S.nilRow e).setv ?_)
 have hv:s t=.slice none 0 0:=by
  exact X1i (S.env t _ hl)
 rw [hv]
 exact .inl ⟨by rw [← S.len];simp,rfl,rfl,rfl⟩
theorem SR.freeze {g:Gh} {s:Env} {a:AH} (S:SR C ⟨E,L⟩ g s a) {t j e n c:Nat} {cs:List D} (hl:lk E t=some (.row j 0 n c)) (hL:L[j]?=some (.row e n cs)) (hc:n≤c):SR C ⟨Vai.setv t (.sl e n cs) (X3a j E),X37 j (L.set j .dead)⟩ (g.set j none) s a:=by
 have hjL:=(List.getElem?_eq_some_iff.1 hL).1
 have hj:j<g.length:=by have:g.length=L.length:=S.len;omega
 have S':=S.relay (j:=j) (x':=none) (o':=.dead) (X1C.refl (fun _=>False) a) (fun _ f=>f.elim) S.ok hj (fun b k e=>by cases e) rfl (fun cs e=>by cases e)
 refine S'.setv ?_
 have hg:g[j]?=some g[j]:=List.getElem?_eq_getElem hj
 obtain⟨hlen,O⟩:=S.obj j _ _ hg hL
 rcases S.env t _ hl with⟨h1,rfl,rfl,hv⟩ | ⟨b,k,h1,hv⟩
 ·
  rw [hv]
  have:cs=[]:=List.length_eq_zero_iff.1 (by rw [hlen];simp)
  subst this
  exact CR.nil
 ·
  rw [hv]
  rcases O with⟨e1,_⟩ | ⟨b',k',vs,e1,p1,p2⟩
  · rw [hg,e1]at h1;cases h1
  ·
   rw [hg,e1]at h1;cases h1
   have hk:k∈g.cls:=Gh.mem_cls.2 ⟨j,b,by rw [hg,e1]⟩
   have hno:¬ MM C.M (g.set j none) k:=by
    rintro(m | m)
    · exact(S.nm k hk).1 m
    ·
     obtain⟨i,b',e'⟩:=Gh.mem_cls.1 m
     by_cases hi:i=j
     · subst hi;rw [List.getElem?_set_self hj]at e';cases e'
     ·
      rw [List.getElem?_set_ne (fun q=>hi q.symm)]at e'
      exact hi (Gh.inj S.nd e' (by rw [hg,e1]))
   refine X4U.cr (i:=0) ⟨_,p1,hno,(S.nm k hk).2.1,rfl,hlen,by rw [Nat.zero_add,← hlen,p2.length];exact Nat.le_refl _,fun i d hd=>?_⟩ hc
   obtain⟨v,r1,r2⟩:=p2.get i d hd
   exact⟨v,by rw [Nat.zero_add];exact r1,r2.mono (X1C.refl (fun _=>False) a) (fun _ f=>f.elim) (fun k _ m=>by
    rcases m with m | m
    · exact .inl m
    ·
     obtain⟨i,b',e'⟩:=Gh.mem_cls.1 m
     by_cases hi:i=j
     · subst hi;rw [List.getElem?_set_self hj]at e';cases e'
     ·
      rw [List.getElem?_set_ne (fun q=>hi q.symm)]at e'
      exact .inr (Gh.mem_cls.2 ⟨i,b',e'⟩))⟩
theorem CD.freeze {c:Code} {Q:X4E} (t:Nat) {j e n c':Nat} {cs:List D} (hl:lk E t=some (.row j 0 n c')) (hL:L[j]?=some (.row e n cs)) (hc:n≤c') (h:CD P ov C c ⟨setv t (.sl e n cs) (X3a j E),X37 j (L.set j .dead)⟩ Q):CD P ov C c ⟨E,L⟩ Q :=
 fun g s a S=>h _ s a (S.freeze hl hL hc)
def X8m (P:Program) (ats:Array TypeId):Option Nat:=match ats[0]?,ats[1]? with
 | some st,some xt=>match P.underlying st,P.underlying xt with
  | some (.slice elem),some d=>match sz P elem,X1o P elem,P.info? elem with
   | some e,some z,some i=>match !X81 d && X82 d && Nat.ble i.bytes 10000 && Nat.beq z.cells.size e && Nat.blt 0 e with
    | true=>some e
    | false=>none
   | _,_,_=>none
  | _,_=>none
 | _,_=>none
theorem X2k {ats:Array TypeId} {e:Nat} (h:X8m P ats=some e) {a a':AH} {s x v:Value} {o:Option Addr} {sLen sCap n:Nat} {new:List Value} (hs:s=.slice o sLen sCap) (hx:X2B a e x=some (n,new)) (hn:new.length=n*e) (h1:(sLen+n)*e≤100000000) (h2:sLen+n≤100000000)
  (ha:X0S a s e sLen sCap n new=some (v,a')):X57 P a ats s x=some (v,a')∧0<e:=by
 unfold X8m at h
 split at h
 case h_2=>cases h
 rename_i st xt q1 q2
 split at h
 case h_2=>cases h
 rename_i elem d q3 q4
 split at h
 case h_2=>cases h
 rename_i e' z i q5 q6 q7
 split at h
 case h_2=>cases h
 rename_i hc
 cases h
 simp only [Bool.and_eq_true,Bool.not_eq_true']at hc
 obtain⟨⟨⟨⟨c1,c2⟩,c3⟩,c4⟩,c5⟩:=hc
 refine⟨?_,by simpa using c5⟩
 have d1:Nat.ble ((sLen+n)*e) 100000000=true:=Nat.ble_eq ▸ h1
 have d2:Nat.ble (sLen+n) 100000000=true:=Nat.ble_eq ▸ h2
 have d3:Nat.beq new.length (n*e)=true:=by rw [hn];exact Nat.beq_refl _
 subst hs
 simp only [X57,q1,q2,q3,q4,q5,q6,q7,c1,hx,c2,c3,c4,c5,d1,d2,d3,Bool.and_self]
 exact ha
theorem X3z {g:Gh} {a:AH} {M:Nat→Prop} {e m:Nat} {ds:List D} {v:Value} (h:CR M a (.sl e m ds) v):∃ new,X2B a e v=some (m,new)∧F2 (CR M a) ds new∧ds.length=m*e:=by
 rcases CR.sl_inv h with⟨rfl,rfl,rfl⟩ | ⟨b,i,c,rfl,hc,hsl⟩
 · exact⟨[],rfl,.nil,by simp⟩
 ·
  obtain⟨B,g1,g2,g3,g4,g5,g6,g7⟩:=hsl.ex
  refine⟨(B.l.drop i).take (m*e),?_,?_,g5⟩
  ·
   simp only [X2B]
   rw [X6E g1 (by omega)]
  ·
   refine F2.of_get (by rw [g5,List.length_take,List.length_drop];omega) fun j d u e1 e2=>?_
   have hj:j<m*e:=by rw [← g5];exact(List.getElem?_eq_some_iff.1 e1).1
   rw [List.getElem?_take,if_pos hj,List.getElem?_drop]at e2
   obtain⟨w,r1,r2⟩:=g7 j d e1
   rw [r1]at e2;cases e2;exact r2
theorem XBb {a:AH} (ok:a.ok) {B:AB} (keep:Bool) (l:List Value) (e:Nat):X1C (·=B.k) a (a.grow B keep l e):=by
 refine⟨Nat.le_succ _,fun x X h w=>?_,fun _ _ h=>h⟩
 show X14 a.blk a.next ⟨l,B.k,true,e⟩ (if keep then some false else none) x=some X
 unfold X14
 have hx:x≠a.next:=by have:=(ok x X h).1;omega
 rw [if_neg hx,h]
 simp only
 rw [if_neg w]
theorem XFW {a:AH} (ok:a.ok) {b:Nat} {B:AB} (hB:a.blk b=some B) (keep:Bool) (l:List Value) (e:Nat):(a.grow B keep l e).ok:=by
 intro x X h
 have hk:=(ok b B hB).2
 show x<a.next+1∧X.k<a.next+1
 have h:X14 a.blk a.next ⟨l,B.k,true,e⟩ (if keep then some false else none) x=some X:=h
 unfold X14 at h
 split at h
 · rename_i hx;cases h;subst hx;exact⟨Nat.lt_succ_self _,by show B.k<a.next+1;omega⟩
 ·
  split at h
  ·
   rename_i Y hY
   have:=ok x Y hY
   split at h
   ·
    split at h
    · cases h;exact⟨by omega,by show Y.k<a.next+1;omega⟩
    · cases h
   · cases h;omega
  · cases h
theorem XBc {a:AH} {B:AB} (keep:Bool) (l:List Value) (e:Nat):(a.grow B keep l e).blk a.next=some ⟨l,B.k,true,e⟩:=by
 show X14 a.blk a.next ⟨l,B.k,true,e⟩ _ a.next=_
 unfold X14;rw [if_pos rfl]
theorem X5F {y:Operand} {e m k0 o0 c0 N0:Nat} {cs0 ds:List D} (hy:zd E y=some (.row k0 o0 m c0)) (hK:L[k0]?=some (.row e N0 cs0)) (hb:o0+m*e≤cs0.length) (hd:(cs0.drop o0).take (m*e)=ds) :
  ∀ g s a,SR C ⟨E,L⟩ g s a→∃ vy new,zev s y=some vy∧X2B a e vy=some (m,new)∧F2 (CR (MM C.M g) a) ds new∧ds.length=m*e:=by
 intro g s a S
 obtain⟨v,q1,q2⟩:=X0C S hy
 have hj:k0<g.length:=by have:g.length=L.length:=S.len;have:=(List.getElem?_eq_some_iff.1 hK).1;omega
 have hg:g[k0]?=some g[k0]:=List.getElem?_eq_getElem hj
 obtain⟨hlen,O⟩:=S.obj k0 _ _ hg hK
 have hle:=hb
 have hdl:ds.length=m*e:=by rw [← hd,List.length_take,List.length_drop];omega
 rcases q2 with⟨e1,rfl,rfl,rfl⟩ | ⟨b,k,e1,rfl⟩
 ·
  refine⟨_,[],q1,rfl,?_,hdl⟩
  have:ds=[]:=List.eq_nil_of_length_eq_zero (by rw [hdl,Nat.zero_mul])
  rw [this];exact .nil
 ·
  rcases O with⟨o1,_⟩ | ⟨b',k',vs,o1,o2,o3⟩
  · rw [hg,o1]at e1;cases e1
  rw [hg,o1]at e1;cases e1
  have hvl:vs.length=cs0.length:=o3.length.symm
  refine⟨_,(vs.drop o0).take (m*e),q1,?_,by rw [← hd];exact(o3.drop _).take _,hdl⟩
  simp only [X2B]
  rw [X6E o2 (show o0+m*e≤vs.length by omega)]
theorem OD.appGg {args:Array Operand} {ats:Array TypeId} {x y:Operand} {j e n c N m:Nat} {cs ds:List D} (ha:args.toList=[x,y]) (ht:X8m P ats=some e) (hx:zd E x=some (.row j 0 n c)) (hL:L[j]?=some (.row e N cs)) (hy:∀ g s a,SR C ⟨E,L⟩ g s a→∃ vy new,zev s y=some vy∧X2B a e vy=some (m,new)∧F2 (CR (MM C.M g) a) ds new∧ds.length=m*e)
  (hn:n≤N) (hm:c<n+m) (h1:(n+m)*e≤100000000) (h2:n+m≤100000000)
  (h:OD P ov C ops l ⟨pt C.nt (X3a j E) dst (.row j 0 (n+m) (n+m)),X37 j (L.set j (.row e (n+m) (cs.take (n*e)++ds)))⟩ q):OD P ov C ops (⟨dst,.call ⟨.builtin .append,args,ats⟩,ty,pos,after,none⟩::l) ⟨E,L⟩ q:=by
 refine OD.heap (fun g s a S=>?_) h
 obtain⟨vx,q1,q2⟩:=X0C S hx
 obtain⟨vy,new,p1,x1,x2,x3⟩:=hy g s a S
 have hnew:new.length=m*e:=by rw [← x2.length];exact x3
 have hjL:=(List.getElem?_eq_some_iff.1 hL).1
 have hj:j<g.length:=by have:g.length=L.length:=S.len;omega
 have hg:g[j]?=some g[j]:=List.getElem?_eq_getElem hj
 obtain⟨hlen,O⟩:=S.obj j _ _ hg hL
 have hble:Nat.ble (n+m) c=false:=by
  cases hb:Nat.ble (n+m) c with
  | false=>rfl
  | true=>have:=Nat.le_of_ble_eq_true hb;omega
 have hnN:n*e≤cs.length:=by rw [hlen];exact Nat.mul_le_mul_right _ hn
 rcases q2 with⟨e1,rfl,rfl,rfl⟩ | ⟨b,k,e1,rfl⟩
 ·
  have hz:X0S a (.slice none 0 0) e 0 0 m new=some (.slice (some ⟨a.next,0,none⟩) m m,a.new new e):=by
   simp only [X0S,hble,Nat.beq_refl,XBC]
  obtain⟨r1,r2⟩:=X2k ht rfl x1 hnew h1 h2 hz
  have K:=X1C.new S.ok new e
  have hj0:g[j]?=some none:=e1
  refine⟨.slice (some ⟨a.next,0,none⟩) m m,a.new new e,g.set j (some (a.next,a.next)),?_,?_,?_⟩
  · simp only [X0P,ha,X3i,q1,p1];exact r1
  ·
   refine S.relay K (fun _ f=>f.elim) (XBO S.ok new e) hj (fun b k e=>by cases e;exact .inr ⟨Nat.le_refl _,Nat.lt_succ_self _⟩) ⟨?_,.inr ⟨a.next,a.next,new,rfl,X4q ..,?_⟩⟩ (fun cs e=>by cases e)
   · rw [Nat.zero_mul,List.take_zero,List.nil_append,Nat.zero_add];exact x3
   ·
    rw [Nat.zero_mul,List.take_zero,List.nil_append]
    refine x2.mono fun d v r=>r.mono K (fun _ f=>f.elim) fun k hk mm=>?_
    rcases mm with mm | mm
    · exact .inl mm
    ·
     obtain⟨i,b',e'⟩:=Gh.mem_cls.1 mm
     by_cases hi:i=j
     · subst hi;rw [List.getElem?_set_self hj]at e';cases e';omega
     · rw [List.getElem?_set_ne (fun q=>hi q.symm)]at e';exact .inr (Gh.mem_cls.2 ⟨i,b',e'⟩)
  · rw [Nat.zero_add];exact .inr ⟨a.next,a.next,List.getElem?_set_self hj,rfl⟩
 ·
  rcases O with⟨o1,_⟩ | ⟨b',k',vs,o1,o2,o3⟩
  · rw [hg,o1]at e1;cases e1
  rw [hg,o1]at e1;cases e1
  have hvl:n*e≤vs.length:=by rw [← o3.length];exact hnN
  have hr:a.rdL b 0 (n*e)=some ((vs.drop 0).take (n*e)):=X6E o2 (by simpa using hvl)
  have hz:∃ kp,X0S a (.slice (some ⟨b,0,none⟩) n c) e n c m new=some (.slice (some ⟨a.next,0,none⟩) (n+m) (n+m),a.grow ⟨vs,k,true,e⟩ kp (vs.take (n*e)++new) e):=by
   refine⟨Nat.beq (0+n*e) vs.length && true,?_⟩
   simp only [X0S,hble,hr,o2,Nat.beq_refl,List.drop_zero]
  obtain⟨kp,hz⟩:=hz
  obtain⟨r1,r2⟩:=X2k ht rfl x1 hnew h1 h2 hz
  have K:=XBb S.ok (B:=⟨vs,k,true,e⟩) kp (vs.take (n*e)++new) e
  have hk:k∈g.cls:=Gh.mem_cls.2 ⟨j,b,by rw [hg,o1]⟩
  refine⟨.slice (some ⟨a.next,0,none⟩) (n+m) (n+m),a.grow ⟨vs,k,true,e⟩ kp (vs.take (n*e)++new) e,g.set j (some (a.next,k)),?_,?_,.inr ⟨a.next,k,List.getElem?_set_self hj,rfl⟩⟩
  · simp only [X0P,ha,X3i,q1,p1];exact r1
  ·
   refine S.relay K (fun x w=>⟨b,by have w:x=k:=w;subst w;rw [hg,o1]⟩) (XFW S.ok o2 kp _ e) hj (fun b' k' e=>by cases e;exact .inl ⟨b,by rw [hg,o1]⟩) ⟨?_,.inr ⟨a.next,k,_,rfl,XBc ..,?_⟩⟩ (fun cs e=>by cases e)
   · rw [List.length_append,List.length_take,x3,Nat.add_mul];omega
   ·
    refine(((o3.take (n*e)).append x2)).mono fun d v r=>r.mono K (fun x w=>?_) fun x hx mm=>?_
    ·
     have w:x=k:=w
     subst w;exact .inr hk
    ·
     rcases mm with mm | mm
     · exact .inl mm
     ·
      obtain⟨i,b',e'⟩:=Gh.mem_cls.1 mm
      by_cases hi:i=j
      · subst hi;rw [List.getElem?_set_self hj]at e';cases e';exact .inr hk
      · rw [List.getElem?_set_ne (fun q=>hi q.symm)]at e';exact .inr (Gh.mem_cls.2 ⟨i,b',e'⟩)
theorem OD.appG {args:Array Operand} {ats:Array TypeId} {x y:Operand} {j e n c N m:Nat} {cs ds:List D} (ha:args.toList=[x,y]) (ht:X8m P ats=some e) (hx:zd E x=some (.row j 0 n c)) (hL:L[j]?=some (.row e N cs)) (hy:zd E y=some (.sl e m ds))
  (hn:n≤N) (hm:c<n+m) (h1:(n+m)*e≤100000000) (h2:n+m≤100000000)
  (h:OD P ov C ops l ⟨pt C.nt (X3a j E) dst (.row j 0 (n+m) (n+m)),X37 j (L.set j (.row e (n+m) (cs.take (n*e)++ds)))⟩ q):OD P ov C ops (⟨dst,.call ⟨.builtin .append,args,ats⟩,ty,pos,after,none⟩::l) ⟨E,L⟩ q :=
 OD.appGg ha ht hx hL (fun g s a S=>by obtain⟨v,q1,q2⟩:=X0C S hy;obtain⟨new,r1,r2,r3⟩:=X3z (g:=g) q2;exact⟨v,new,q1,r1,r2,r3⟩) hn hm h1 h2 h
theorem OD.appGR {args:Array Operand} {ats:Array TypeId} {x y:Operand} {j e n c N m:Nat} {cs ds:List D} (ha:args.toList=[x,y]) (ht:X8m P ats=some e) (hx:zd E x=some (.row j 0 n c)) (hL:L[j]?=some (.row e N cs)) {k0 o0 c0 N0:Nat} {cs0:List D} (hy:zd E y=some (.row k0 o0 m c0)) (hK:L[k0]?=some (.row e N0 cs0)) (hb:o0+m*e≤cs0.length) (hd:(cs0.drop o0).take (m*e)=ds)
  (hn:n≤N) (hm:c<n+m) (h1:(n+m)*e≤100000000) (h2:n+m≤100000000)
  (h:OD P ov C ops l ⟨pt C.nt (X3a j E) dst (.row j 0 (n+m) (n+m)),X37 j (L.set j (.row e (n+m) (cs.take (n*e)++ds)))⟩ q):OD P ov C ops (⟨dst,.call ⟨.builtin .append,args,ats⟩,ty,pos,after,none⟩::l) ⟨E,L⟩ q :=
 OD.appGg ha ht hx hL (X5F hy hK hb hd) hn hm h1 h2 h
theorem OD.appIg {args:Array Operand} {ats:Array TypeId} {x y:Operand} {j e n c N m:Nat} {cs ds:List D} (ha:args.toList=[x,y]) (ht:X8m P ats=some e) (hx:zd E x=some (.row j 0 n c)) (hL:L[j]?=some (.row e N cs)) (hy:∀ g s a,SR C ⟨E,L⟩ g s a→∃ vy new,zev s y=some vy∧X2B a e vy=some (m,new)∧F2 (CR (MM C.M g) a) ds new∧ds.length=m*e)
  (hc:c≤N) (hm:n+m≤c) (hc0:0<c) (h1:(n+m)*e≤100000000) (h2:n+m≤100000000)
  (h:OD P ov C ops l ⟨pt C.nt (X3a j E) dst (.row j 0 (n+m) c),X37 j (L.set j (.row e N (cs.take (n*e)++ds++cs.drop ((n+m)*e))))⟩ q):OD P ov C ops (⟨dst,.call ⟨.builtin .append,args,ats⟩,ty,pos,after,none⟩::l) ⟨E,L⟩ q:=by
 refine OD.heap (fun g s a S=>?_) h
 obtain⟨vx,q1,q2⟩:=X0C S hx
 obtain⟨vy,new,p1,x1,x2,x3⟩:=hy g s a S
 have hnew:new.length=m*e:=by rw [← x2.length];exact x3
 have hjL:=(List.getElem?_eq_some_iff.1 hL).1
 have hj:j<g.length:=by have:g.length=L.length:=S.len;omega
 have hg:g[j]?=some g[j]:=List.getElem?_eq_getElem hj
 obtain⟨hlen,O⟩:=S.obj j _ _ hg hL
 have hble:Nat.ble (n+m) c=true:=by simpa using hm
 have hnN:(n+m)*e≤cs.length:=by rw [hlen];exact Nat.mul_le_mul_right _ (by omega)
 rcases q2 with⟨e1,rfl,rfl,rfl⟩ | ⟨b,k,e1,rfl⟩
 · omega
 rcases O with⟨o1,_⟩ | ⟨b',k',vs,o1,o2,o3⟩
 · rw [hg,o1]at e1;cases e1
 rw [hg,o1]at e1;cases e1
 have hvl:(n+m)*e≤vs.length:=by rw [← o3.length];exact hnN
 have hfit:n*e+new.length≤vs.length:=by rw [hnew,← Nat.add_mul];exact hvl
 have hz:X0S a (.slice (some ⟨b,0,none⟩) n c) e n c m new=some (.slice (some ⟨b,0,none⟩) (n+m) c,{ a with blk:=X14 a.blk b ⟨over vs (n*e) new,k,true,e⟩ none }):=by
  simp only [X0S,hble,o2,Nat.beq_refl,Nat.zero_add,AH.wrL,hfit,and_self,if_true]
 obtain⟨r1,r2⟩:=X2k ht rfl x1 hnew h1 h2 hz
 have K:=X25 (B':=⟨over vs (n*e) new,k,true,e⟩) o2 rfl
 have hk:k∈g.cls:=Gh.mem_cls.2 ⟨j,b,by rw [hg,o1]⟩
 have hset:g.set j (some (b,k))=g:=by
  refine List.ext_getElem? fun i=>?_
  by_cases hi:i=j
  · subst hi;rw [List.getElem?_set_self hj,hg,o1]
  · rw [List.getElem?_set_ne (fun q=>hi q.symm)]
 refine⟨.slice (some ⟨b,0,none⟩) (n+m) c,{ a with blk:=X14 a.blk b ⟨over vs (n*e) new,k,true,e⟩ none },g,?_,?_,.inr ⟨b,k,by rw [hg,o1],rfl⟩⟩
 · simp only [X0P,ha,X3i,q1,p1];exact r1
 ·
  have:=S.relay (j:=j) (x':=some (b,k)) (o':=.row e N (cs.take (n*e)++ds++cs.drop ((n+m)*e))) K (fun x w=>⟨b,by have w:x=k:=w;subst w;rw [hg,o1]⟩) (X6r S.ok o2 rfl) hj (fun b' k' e=>by cases e;exact .inl ⟨b,by rw [hg,o1]⟩)
   (by
    rw [hset]
    refine⟨?_,.inr ⟨b,k,_,rfl,X2V,?_⟩⟩
    ·
     have e2:(n+m)*e=n*e+m*e:=Nat.add_mul ..
     rw [List.length_append,List.length_append,List.length_take,List.length_drop,x3];omega
    ·
     have R:F2 (CR (MM C.M g) a) (cs.take (n*e)++ds++cs.drop ((n+m)*e)) (over vs (n*e) new):=by
      unfold over
      rw [hnew,← Nat.add_mul]
      exact((o3.take (n*e)).append x2).append (o3.drop _)
     refine R.mono fun d v r=>r.mono K (fun x w=>?_) (fun _ _ m=>m)
     have w:x=k:=w
     subst w;exact .inr hk)
   (fun cs e=>by cases e)
  rw [hset]at this
  exact this
theorem OD.appI {args:Array Operand} {ats:Array TypeId} {x y:Operand} {j e n c N m:Nat} {cs ds:List D} (ha:args.toList=[x,y]) (ht:X8m P ats=some e) (hx:zd E x=some (.row j 0 n c)) (hL:L[j]?=some (.row e N cs)) (hy:zd E y=some (.sl e m ds))
  (hc:c≤N) (hm:n+m≤c) (hc0:0<c) (h1:(n+m)*e≤100000000) (h2:n+m≤100000000)
  (h:OD P ov C ops l ⟨pt C.nt (X3a j E) dst (.row j 0 (n+m) c),X37 j (L.set j (.row e N (cs.take (n*e)++ds++cs.drop ((n+m)*e))))⟩ q):OD P ov C ops (⟨dst,.call ⟨.builtin .append,args,ats⟩,ty,pos,after,none⟩::l) ⟨E,L⟩ q :=
 OD.appIg ha ht hx hL (fun g s a S=>by obtain⟨v,q1,q2⟩:=X0C S hy;obtain⟨new,r1,r2,r3⟩:=X3z (g:=g) q2;exact⟨v,new,q1,r1,r2,r3⟩) hc hm hc0 h1 h2 h
theorem OD.appIR {args:Array Operand} {ats:Array TypeId} {x y:Operand} {j e n c N m:Nat} {cs ds:List D} (ha:args.toList=[x,y]) (ht:X8m P ats=some e) (hx:zd E x=some (.row j 0 n c)) (hL:L[j]?=some (.row e N cs)) {k0 o0 c0 N0:Nat} {cs0:List D} (hy:zd E y=some (.row k0 o0 m c0)) (hK:L[k0]?=some (.row e N0 cs0)) (hb:o0+m*e≤cs0.length) (hd:(cs0.drop o0).take (m*e)=ds)
  (hc:c≤N) (hm:n+m≤c) (hc0:0<c) (h1:(n+m)*e≤100000000) (h2:n+m≤100000000)
  (h:OD P ov C ops l ⟨pt C.nt (X3a j E) dst (.row j 0 (n+m) c),X37 j (L.set j (.row e N (cs.take (n*e)++ds++cs.drop ((n+m)*e))))⟩ q):OD P ov C ops (⟨dst,.call ⟨.builtin .append,args,ats⟩,ty,pos,after,none⟩::l) ⟨E,L⟩ q :=
 OD.appIg ha ht hx hL (X5F hy hK hb hd) hc hm hc0 h1 h2 h
def XFX:Value→Bool
 | .pointer (some ⟨_,_,none⟩)=>true
 | .slice (some ⟨_,_,none⟩) _ _=>true
 | v=>X1V v v
theorem XDP {v:Value} (h:XFX v=true):X1V v v=true:=by
 unfold XFX at h
 split at h
 · simp [X1V]
 · simp [X1V]
 · exact h
def lOk1:D→Bool
 | .int _ _=>true
 | .bool _=>true
 | .str _=>true
 | .sl _ _ _=>true
 | .loc _ _=>true
 | .row _ _ _ _=>true
 | .ep _ _ _ _=>true
 | .bx _ _=>true
 | .lit v=>XFX v
 | .cmp=>true
 | _=>false
def lOk:D→Bool
 | .agg ds=>ds.all lOk1
 | .clo _ _=>false
 | .tup ds=>ds.isEmpty
 | d=>lOk1 d
theorem XBd {M:Nat→Prop} {g:Gh} {a:AH} {d:D} {v:Value} (h:DL M g a d v) (hd:lOk1 d=true):X1V v v=true∧∀ cs,v≠.agg cs:=by
 have ptr:∀ b o,X1V (.pointer (some ⟨b,o,none⟩)) (.pointer (some ⟨b,o,none⟩))=true:=fun b o=>by simp [X1V]
 have sl:∀ b o n c,X1V (.slice (some ⟨b,o,none⟩) n c) (.slice (some ⟨b,o,none⟩) n c)=true:=fun b o n c=>by simp [X1V]
 cases d with
 | int k z=>cases h;exact⟨by simp [X1V],fun _ e=>by cases e⟩
 | bool b=>cases h;exact⟨by cases b<;>simp [X1V],fun _ e=>by cases e⟩
 | str s=>cases h;exact⟨by simp [X1V],fun _ e=>by cases e⟩
 | sl e n cs=>rcases CR.sl_inv h with⟨_,_,rfl⟩ | ⟨b,i,c,rfl,_⟩;exact⟨rfl,fun _ e=>by cases e⟩;exact⟨sl _ _ _ _,fun _ e=>by cases e⟩
 | loc i o=>obtain⟨b,k,_,rfl⟩:=h;exact⟨ptr _ _,fun _ e=>by cases e⟩
 | row j o n c=>rcases h with⟨_,_,_,rfl⟩ | ⟨b,k,_,rfl⟩;exact⟨rfl,fun _ e=>by cases e⟩;exact⟨sl _ _ _ _,fun _ e=>by cases e⟩
 | ep e n cs o=>obtain⟨b,i,rfl,_⟩:=h;exact⟨ptr _ _,fun _ e=>by cases e⟩
 | bx cs o=>obtain⟨b,rfl,_⟩:=h;exact⟨ptr _ _,fun _ e=>by cases e⟩
 | lit v=>cases h;have hd:=XDP hd;exact⟨hd,fun cs e=>by subst e;cases hd⟩
 | cmp=>exact h
 | _=>cases hd
theorem X9m {M:Nat→Prop} {g:Gh} {a:AH} {d:D} {v:Value} (h:DR M g a d v) (hd:lOk d=true):veq v v=true:=by
 have leaf:DL M g a d v→lOk1 d=true→veq v v=true:=fun h hd=>by
  obtain⟨h1,h2⟩:=XBd h hd
  cases v<;>first | exact h1 | exact absurd rfl (h2 _) | cases h1
 cases d with
 | agg ds =>
  obtain⟨vs,rfl,h2⟩:=h
  replace hd:=List.all_eq_true.1 hd
  show X5q vs.toArray.toList vs.toArray.toList=true
  simp only [List.toList_toArray]
  clear leaf
  induction h2 with
  | nil=>rfl
  | cons h t ih =>
   simp only [X5q,Bool.and_eq_true]
   exact⟨(XBd h (hd _ (by simp))).1,ih fun x hx=>hd x (by simp [hx])⟩
 | tup ds =>
  cases ds with
  | cons d ds=>cases hd
  | nil =>
   obtain⟨vs,rfl,h2⟩:=h
   cases h2;rfl
 | any=>cases hd
 | clo f ds=>cases hd
 | _=>exact leaf h hd
def X6x (lo:List Nat) (E:X0m):Bool:=lo.all fun t=>match lk E t with
 | some d=>lOk d
 | none=>false
theorem CD.drawn {id:Nat} {σ:SD} {Q:X4E} (ht:X9a [] C.nt ops=true) (h:OD P ov C ops ops.toList σ fun σ'=>X6x (X4C ops) σ'.E=true∧Q.n σ'):CD P ov C (.region id ops true) σ Q:=by
 intro g s a S
 refine Cx.drawn ht ((h g s a S).mono fun s' a' k=>?_)
 obtain⟨σ',g',S',k1,k2⟩:=k
 refine⟨fun d hd=>?_,Frz.none,σ',g',S',k2⟩
 have:=List.all_eq_true.1 k1 d hd
 split at this
 · rename_i x hx;exact X9m (S'.env d x hx) this
 · cases this
end
end Go.Vai

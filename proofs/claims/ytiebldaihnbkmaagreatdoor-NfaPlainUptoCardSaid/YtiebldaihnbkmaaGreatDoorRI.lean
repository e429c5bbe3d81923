/-
  What is proved here: rules for rows of numbers and truths, as lists (part RI). rules of the layer for plain data once more, with the kernel's part filled in (part RS: short forms) No conditions but those that the theorems state.
-/
import Derived.Test.YtiebldaihnbkmaaGreatDoorRH
import Derived.KernelRfl
set_option linter.unusedVariables false
set_option linter.unusedSimpArgs false
namespace Go.Vai
noncomputable section
variable {P:Program} {ov:Ov} {C:Cx0}
variable {ops:Array Oper} {dst:Option Nat} {ty:TypeId} {pos_:String} {after:Array Edge} {l:List Oper} {E:X19} {L:List Ob} {q:SD→Prop} {α:Type}
theorem XAc {f:α→D} {xs:List α} {i:Nat} (d0:α) (h:i<xs.length):(xs.map f)[i]?=some (f (xs.getD i d0)):=by
 rw [List.getElem?_map,List.getElem?_eq_getElem h,List.getD_eq_getElem?_getD,List.getElem?_eq_getElem h];rfl
theorem XHa {f:α→D} {xs:List α} {i:Nat} {v:α} (h:i<xs.length):(xs.map f).take i++[f v]++(xs.map f).drop (i+[f v].length)=(xs.set i v).map f:=by
 rw [List.map_set,List.set_eq_take_append_cons_drop,if_pos (by simpa using h)]
 simp
theorem OD.mkV (f:α→D) (d0:α) {t:TypeId} {x y:Operand} {k k':IntKind} {n by_:Nat} (ht:XI6 P t=some (1,[f d0],by_)) (hx:zd E x=some (.int k (n:Int))) (hy:zd E y=some (.int k' (n:Int))) (hb:n*by_≤281474976710656) (hn:n≤100000000)
  (h:OD P ov C ops l ⟨pt C.nt E dst (.row L.length 0 n n),L++[.row 1 n ((List.replicate n d0).map f)]⟩ q):OD P ov C ops (⟨dst,.makeSlice t x y,ty,pos_,after,none⟩::l) ⟨E,L⟩ q:=by
 refine OD.mk ht hx hy hb (by omega) (by omega) ?_
 rw [XAZ,← List.map_replicate];exact h
theorem OD.idxV {t:TypeId} {x y:Operand} {j n c i:Nat} {k:IntKind} {z:Int} (hx:zd E x=some (.row j 0 n c)) (hy:zd E y=some (.int k z)) (ht:X3j P t=some 1) (hz:z=(i:Int)) (h1:i<n)
  (h:OD P ov C ops l ⟨pt C.nt E dst (.loc j i),L⟩ q):OD P ov C ops (⟨dst,.indexAddr t x y,ty,pos_,after,none⟩::l) ⟨E,L⟩ q:=by
 refine OD.idxR hx hy ht (by omega) (by omega) ?_
 subst hz
 rw [Int.toNat_natCast,Nat.mul_one,Nat.zero_add];exact h
theorem OD.idxSV {t:TypeId} {x y:Operand} {n i:Nat} {cs:List D} {k:IntKind} {z:Int} (hx:zd E x=some (.sl 1 n cs)) (hy:zd E y=some (.int k z)) (ht:X3j P t=some 1) (hz:z=(i:Int)) (h1:i<n)
  (h:OD P ov C ops l ⟨pt C.nt E dst (.ep 1 n cs i),L⟩ q):OD P ov C ops (⟨dst,.indexAddr t x y,ty,pos_,after,none⟩::l) ⟨E,L⟩ q:=by
 refine OD.idx hx hy ht (by omega) (by omega) ?_
 subst hz
 rw [Int.toNat_natCast,Nat.mul_one];exact h
theorem OD.ldV (d0:α) {f:α→D} {t:TypeId} {x:Operand} {j n i:Nat} {xs:List α} (hx:zd E x=some (.loc j i)) (hL:L[j]?=some (.row 1 n (xs.map f))) (ha:X2y P t=some false) (hi:i<xs.length)
  (h:OD P ov C ops l ⟨pt C.nt E dst (f (xs.getD i d0)),L⟩ q):OD P ov C ops (⟨dst,.load t x,ty,pos_,after,none⟩::l) ⟨E,L⟩ q :=
 OD.ldR hx hL ha (XAc d0 hi) h
theorem OD.ldSV (d0:α) {f:α→D} {t:TypeId} {x:Operand} {n i:Nat} {xs:List α} (hx:zd E x=some (.ep 1 n (xs.map f) i)) (ha:X2y P t=some false) (hi:i<xs.length)
  (h:OD P ov C ops l ⟨pt C.nt E dst (f (xs.getD i d0)),L⟩ q):OD P ov C ops (⟨dst,.load t x,ty,pos_,after,none⟩::l) ⟨E,L⟩ q :=
 OD.ldL hx ha (XAc d0 hi) h
theorem OD.stV (f:α→D) (v:α) {t:TypeId} {x y:Operand} {j n i:Nat} {xs:List α} (hx:zd E x=some (.loc j i)) (hL:L[j]?=some (.row 1 n (xs.map f))) (hy:zd E y=some (f v)) (hd:X3u (f v)=some [f v]) (hc:XF2 (f v)=true) (hs:sz P t=some 1) (hi:i<xs.length)
  (h:OD P ov C ops l ⟨pt C.nt E dst .any,L.set j (.row 1 n ((xs.set i v).map f))⟩ q):OD P ov C ops (⟨dst,.store t x y,ty,pos_,after,none⟩::l) ⟨E,L⟩ q:=by
 refine OD.stR hx hL hy hd (by simpa using hc) hs rfl (by rw [List.length_map];exact hi) ?_
 rw [XHa hi];exact h
theorem OD.appV {f:α→D} {args:Array Operand} {ats:Array TypeId} {x y:Operand} {j n m:Nat} {xs vs:List α} {ds:List D} (ha:args.toList=[x,y]) (ht:appT P ats=some 1) (hx:zd E x=some (.row j 0 n n)) (hL:L[j]?=some (.row 1 n (xs.map f))) (hy:zd E y=some (.sl 1 m ds)) (hv:ds=vs.map f)
  (hl:xs.length=n) (hm:0<m) (h2:n+m≤100000000)
  (h:OD P ov C ops l ⟨pt C.nt (X2K j E) dst (.row j 0 (n+m) (n+m)),X1p j (L.set j (.row 1 (n+m) ((xs++vs).map f)))⟩ q):OD P ov C ops (⟨dst,.call ⟨.builtin .append,args,ats⟩,ty,pos_,after,none⟩::l) ⟨E,L⟩ q:=by
 refine OD.appG ha ht hx hL hy (Nat.le_refl _) (by omega) (by omega) h2 ?_
 rw [Nat.mul_one,List.take_of_length_le (by simpa using Nat.le_of_eq hl),hv,← List.map_append];exact h
def X0e (n:Nat):D:=.int .i64 (n:Int)
theorem OD.appE {enc:α→List D} {args:Array Operand} {ats:Array TypeId} {x y:Operand} {j n m e:Nat} {xs vs:List α} {ds:List D} (ha:args.toList=[x,y]) (ht:appT P ats=some e) (hx:zd E x=some (.row j 0 n n)) (hL:L[j]?=some (.row e n (xs.flatMap enc))) (hy:zd E y=some (.sl e m ds)) (hv:ds=vs.flatMap enc)
  (he:∀ x,(enc x).length=e) (hl:xs.length=n) (hm:0<m) (h1:(n+m)*e≤100000000) (h2:n+m≤100000000)
  (h:OD P ov C ops l ⟨pt C.nt (X2K j E) dst (.row j 0 (n+m) (n+m)),X1p j (L.set j (.row e (n+m) ((xs++vs).flatMap enc)))⟩ q):OD P ov C ops (⟨dst,.call ⟨.builtin .append,args,ats⟩,ty,pos_,after,none⟩::l) ⟨E,L⟩ q:=by
 refine OD.appG ha ht hx hL hy (Nat.le_refl _) (by omega) h1 h2 ?_
 rw [List.take_of_length_le (by rw [X5E he,hl];exact Nat.le_refl _),hv,← List.flatMap_append];exact h
theorem getD_some {xs:List α} {i:Nat} {d:α} (h:i<xs.length):xs[i]?=some (xs.getD i d):=by
 rw [List.getElem?_eq_getElem h,List.getD_eq_getElem?_getD,List.getElem?_eq_getElem h];rfl
theorem X5j {xs:List α} {i:Nat} {d v:α} (h:xs[i]?=some v):xs.getD i d=v:=by rw [List.getD_eq_getElem?_getD,h];rfl
theorem CD.nilSl {c:Code} {Q:X50} (t e:Nat) (hl:lk E t=some (.lit (.slice none 0 0))) (h:CD P ov C c ⟨setv t (.sl e 0 []) E,L⟩ Q):CD P ov C c ⟨E,L⟩ Q:=fun g s a S =>
 h g s a (S.setv (by rw [X3v (S.env t _ hl)];exact CR.nil))
theorem X01 {rs:Array ResultVar} {n0:Nat} {Q:D→List Ob→Prop} {σ:SD} (h:XF0 P rs n0 Q σ):(XIs P rs n0 Q).r σ:=h
theorem X02 {rs:Array ResultVar} {n0:Nat} {Q:D→List Ob→Prop} {σ:SD} (h:XF0 P rs n0 Q σ):(XIs P rs n0 Q).n σ:=h
theorem XBN {rs:Array ResultVar} {n0:Nat} {E:X19} {L L':List Ob} {r:D} {Q:D→List Ob→Prop} (k:Nat) (h:X7V P rs ⟨E,L⟩=some r) (h1:n0≤k) (h2:k≤L.length) (hL:L.take k=L') (hc:X2G k [(0,r)] L'=true) (hq:Q r L'):XF0 P rs n0 Q ⟨E,L⟩ :=
 ⟨r,k,h,h1,h2,by rw [show(SD.mk E L).L=L from rfl,hL];exact hc,by rw [show(SD.mk E L).L=L from rfl,hL];exact hq⟩
theorem OD.idxE {t:TypeId} {x y:Operand} {j n c i e:Nat} {k:IntKind} {z:Int} (hx:zd E x=some (.row j 0 n c)) (hy:zd E y=some (.int k z)) (ht:X3j P t=some e) (hz:z=(i:Int)) (h1:i<n)
  (h:OD P ov C ops l ⟨pt C.nt E dst (.loc j (i*e)),L⟩ q):OD P ov C ops (⟨dst,.indexAddr t x y,ty,pos_,after,none⟩::l) ⟨E,L⟩ q:=by
 refine OD.idxR hx hy ht (by omega) (by omega) ?_
 subst hz
 rw [Int.toNat_natCast,Nat.zero_add];exact h
theorem OD.idxSE {t:TypeId} {x y:Operand} {n i e:Nat} {cs:List D} {k:IntKind} {z:Int} (hx:zd E x=some (.sl e n cs)) (hy:zd E y=some (.int k z)) (ht:X3j P t=some e) (hz:z=(i:Int)) (h1:i<n)
  (h:OD P ov C ops l ⟨pt C.nt E dst (.ep e n cs (i*e)),L⟩ q):OD P ov C ops (⟨dst,.indexAddr t x y,ty,pos_,after,none⟩::l) ⟨E,L⟩ q:=by
 refine OD.idx hx hy ht (by omega) (by omega) ?_
 subst hz
 rw [Int.toNat_natCast];exact h
theorem OD.stE {t:TypeId} {x y:Operand} {j o e n:Nat} {cs cs':List D} {d:D} (hx:zd E x=some (.loc j o)) (hL:L[j]?=some (.row e n cs)) (hy:zd E y=some d) (hds:X3u d=some [d]) (hcr:XF2 d=true) (hs:sz P t=some 1) (ho:o+1≤cs.length) (hcs:cs.take o++[d]++cs.drop (o+1)=cs')
  (h:OD P ov C ops l ⟨pt C.nt E dst .any,L.set j (.row e n cs')⟩ q):OD P ov C ops (⟨dst,.store t x y,ty,pos_,after,none⟩::l) ⟨E,L⟩ q:=by
 refine OD.stR hx hL hy hds (by simpa using hcr) hs rfl ho ?_
 subst hcs;exact h
theorem XF9 {L:List Ob} {i:Nat} {o o':Ob} (h:L[i]?=some o):L.set i o=L:=by
 refine List.ext_getElem? fun j=>?_
 by_cases e:j=i
 · subst e;rw [List.getElem?_set_self (List.getElem?_eq_some_iff.1 h).1,h]
 · rw [List.getElem?_set_ne (fun q=>e q.symm)]
theorem OD.nilRowB (i o e:Nat) {cs:List D} (hL:L[i]?=some (.box cs)) (hc:cs[o]?=some (.lit (.slice none 0 0))) (h:OD P ov C ops l ⟨E,L.set i (.box (cs.set o (.row L.length 0 0 0)))++[.row e 0 []]⟩ q):OD P ov C ops l ⟨E,L⟩ q:=fun g s a S=>by
 have S1:=S.nilRow e
 refine h (g++[none]) s a ?_
 have hi:=(List.getElem?_eq_some_iff.1 hL).1
 have hlen:g.length=L.length:=S.len
 have e1:L.set i (.box (cs.set o (.row L.length 0 0 0)))++[Ob.row e 0 []]=(L++[Ob.row e 0 []]).set i (.box (cs.set o (.row L.length 0 0 0))):=by
  rw [List.set_append_left _ _ hi]
 rw [e1]
 refine S1.heap' (X1e.refl (fun _=>False) a) (fun _ f=>f.elim) S1.ok (Gh.On.refl _) (by simp [hlen]) (fun k hk=>.inl hk) S1.nd (fun j x ob h1 h2=>?_) fun j cs' h2=>?_
 ·
  by_cases hj:j=i
  ·
   subst hj
   rw [List.getElem?_set_self (by simp;omega)]at h2
   cases h2
   have hLL:(L++[Ob.row e 0 []])[j]?=some (.box cs):=by rw [List.getElem?_append_left hi];exact hL
   obtain⟨b,k,vs,rfl,p1,p2⟩:=S1.obj j x _ h1 hLL
   obtain⟨v,q1,q2⟩:=p2.get o _ hc
   have hv:=X3v q2.dr
   subst hv
   refine⟨b,k,vs,rfl,p1,?_⟩
   have:vs=vs.set o (.slice none 0 0):=by
    refine List.ext_getElem? fun m=>?_
    by_cases hm:m=o
    · subst hm;rw [List.getElem?_set_self (List.getElem?_eq_some_iff.1 q1).1,q1]
    · rw [List.getElem?_set_ne (fun q=>hm q.symm)]
   rw [this]
   exact p2.set o _ _ (.inl ⟨by rw [← hlen];simp,rfl,rfl,rfl⟩)
  ·
   rw [List.getElem?_set_ne (fun q=>hj q.symm)]at h2
   exact S1.obj j x ob h1 h2
 ·
  by_cases hj:j=i
  · subst hj;exact .inr ⟨cs,by rw [List.getElem?_append_left hi];exact hL⟩
  · rw [List.getElem?_set_ne (fun q=>hj q.symm)]at h2;exact .inr ⟨cs',h2⟩
theorem OD.freezeB (i o:Nat) {j e n c:Nat} {cs bs:List D} (hL:L[i]?=some (.box bs)) (hb:bs[o]?=some (.row j 0 n c)) (hj:L[j]?=some (.row e n cs)) (hc:n≤c)
  (h:OD P ov C ops l ⟨X2K j E,(X1p j (L.set j .dead)).set i (.box ((bs.map (X1f j)).set o (.sl e n cs)))⟩ q):OD P ov C ops l ⟨E,L⟩ q:=fun g s a S=>by
 have hij:i≠j:=by rintro rfl;rw [hL]at hj;cases hj
 have hlen:g.length=L.length:=S.len
 have hi:=(List.getElem?_eq_some_iff.1 hL).1
 have hjl:=(List.getElem?_eq_some_iff.1 hj).1
 have hg:g[i]?=some (g[i]'(by omega)):=List.getElem?_eq_getElem (by omega)
 obtain⟨b,k,vs,e1,p1,p2⟩:=S.obj i _ _ hg hL
 obtain⟨v,q1,q2⟩:=p2.get o _ hb
 let t:=(E.map Prod.fst).foldl max 0+1
 have hS:SR C ⟨(t,.row j 0 n c)::E,L⟩ g (fun x=>if x=t then v else s x) a:=⟨S.ok,S.old,(fun u d h=>by
  rcases X1g h with⟨rfl,rfl⟩ | ⟨h1,h2⟩
  · simp only [if_true];exact q2.dr
  · simp only [if_neg h1];exact S.env u d h2),S.len,S.pl,S.obj,S.nd,S.nm,S.kp,S.ok0,S.pre,S.pk⟩
 have F:=hS.freeze (t:=t) (X0q ..) hj hc
 have fv:DR (MM C.M (g.set j none)) (g.set j none) a (.sl e n cs) v:=by
  have:=F.env t (.sl e n cs) (by simp [setv,X2K,lk])
  simpa using this
 refine h (g.set j none) s a ?_
 have F2':SR C ⟨X2K j E,X1p j (L.set j .dead)⟩ (g.set j none) s a:=⟨F.ok,F.old,(fun u d hd=>by
  by_cases hu:u=t
  ·
   subst hu
   exfalso
   obtain⟨y,hy,_⟩:=X7a hd
   have hm:=XFp hy
   have:∀ (l:List Nat) (m x:Nat),x∈l→x≤l.foldl max m:=by
    intro l
    induction l with
    | nil=>intro m x h;cases h
    | cons z l ih =>
     intro m x h
     have mono:∀ (l:List Nat) (m:Nat),m≤l.foldl max m:=by
      intro l
      induction l with
      | nil=>intro m;exact Nat.le_refl _
      | cons z l ih=>intro m;exact Nat.le_trans (Nat.le_max_left _ _) (ih _)
     rcases List.mem_cons.1 h with rfl | h
     · exact Nat.le_trans (Nat.le_max_right _ _) (mono l _)
     · exact ih _ x h
   have h1:=this (E.map Prod.fst) 0 t (List.mem_map.2 ⟨(t,y),hm,rfl⟩)
   have h2:t=(E.map Prod.fst).foldl max 0+1:=rfl
   omega
  ·
   have:=F.env u d (by
    show lk (Vai.setv t (.sl e n cs) (X2K j ((t,.row j 0 n c)::E))) u=some d
    have key:∀ (E:X19),lk E u=some d→lk (Vai.setv t (.sl e n cs) E) u=some d:=by
     intro E
     induction E with
     | nil=>intro h;cases h
     | cons p E ih =>
      obtain⟨w,z⟩:=p
      intro h
      rcases X1g h with⟨rfl,rfl⟩ | ⟨h1,h2⟩
      · simp only [Vai.setv,X3D hu,cond_false];exact X0q ..
      ·
       simp only [Vai.setv]
       cases hb:Nat.beq w t with
       | true=>simp only [cond_true];rw [X0X _ _ h1];exact ih h2
       | false=>simp only [cond_false];rw [X0X _ _ h1];exact ih h2
    refine key _ ?_
    show lk ((t,X51 j (.row j 0 n c))::X2K j E) u=some d
    rw [X0X _ _ hu];exact hd)
   simpa only [if_neg hu]using this),F.len,F.pl,F.obj,F.nd,F.nm,F.kp,F.ok0,F.pre,F.pk⟩
 have hLi:(X1p j (L.set j .dead))[i]?=some (.box (bs.map (X1f j))):=by
  unfold X1p
  rw [List.getElem?_map,List.getElem?_set_ne (fun q=>hij q.symm),hL];rfl
 refine F2'.heap' (X1e.refl (fun _=>False) a) (fun _ f=>f.elim) F2'.ok (Gh.On.refl _) (by simp only [List.length_set,X1p,List.length_map];exact S.len) (fun k hk=>.inl hk) F2'.nd (fun m x ob h1 h2=>?_) fun m cs' h2=>?_
 ·
  by_cases hm:m=i
  ·
   subst hm
   rw [List.getElem?_set_self (by simp [X1p];exact hi)]at h2
   cases h2
   obtain⟨b',k',vs',e2,r1,r2⟩:=F2'.obj m x _ h1 hLi
   have hx:x=some (b,k):=by
    rw [List.getElem?_set_ne (fun q=>hij q.symm),hg]at h1
    cases h1;exact e1
   rw [hx]at e2;cases e2
   rw [p1]at r1;cases r1
   have hvs:vs=vs.set o v:=by
    refine List.ext_getElem? fun y=>?_
    by_cases hy:y=o
    · subst hy;rw [List.getElem?_set_self (List.getElem?_eq_some_iff.1 q1).1,q1]
    · rw [List.getElem?_set_ne (fun q=>hy q.symm)]
   refine⟨b,k,vs,hx,p1,?_⟩
   rw [hvs]
   exact r2.set o _ _ fv
  ·
   rw [List.getElem?_set_ne (fun q=>hm q.symm)]at h2
   exact F2'.obj m x ob h1 h2
 ·
  by_cases hm:m=i
  · subst hm;exact .inr ⟨_,hLi⟩
  · rw [List.getElem?_set_ne (fun q=>hm q.symm)]at h2;exact .inr ⟨cs',h2⟩
end
end Go.Vai
namespace Go.Vai
noncomputable section
variable {P:Program} {ov:Ov} {C:Cx0} {ops:Array Oper} {dst:Option Nat} {ty:TypeId} {pos_:String} {after:Array Edge} {l:List Oper} {E:X19} {L:List Ob} {q:SD→Prop}
abbrev D.i64 (x:Int):D:=.int .i64 x
theorem OD.rE (k:Nat) (E':X19) (hq:OD P ov C ops (l.drop k) ⟨E',L⟩ q) (h:XIr P C.nt ops (l.take k) E L (E'.map Prod.fst)=some (E',L):=by kernel_rfl):OD P ov C ops l ⟨E,L⟩ q:=OD.run k _ h hq
theorem OD.rL (k:Nat) (E':X19) (L':List Ob) (hq:OD P ov C ops (l.drop k) ⟨E',L'⟩ q) (h:XIr P C.nt ops (l.take k) E L (E'.map Prod.fst)=some (E',L'):=by kernel_rfl):OD P ov C ops l ⟨E,L⟩ q:=OD.run k _ h hq
theorem rP {rs:Array ResultVar} {σ:SD} {r0:D} (r:D) (e:r=r0) (h:X7V P rs σ=some r:=by kernel_rfl) (hc:X2G 0 [(0,r)] []=true:=by kernel_rfl):XF0 P rs 0 (fun r' L'=>r'=r0∧L'=[]) σ:=X6O h hc e
theorem OD.cE {x:Operand} {args:Array Operand} {ats:Array TypeId} {f:FuncId} {ds:List D} {r:D} (hf:X1Q P ov f ds r) (h:OD P ov C ops l ⟨pt C.nt E dst r,L⟩ q) (hx:zd E x=some (.fn f):=by rfl) (hl:zdL E args.toList=some ds:=by kernel_rfl) (hr:ds.all X8M=true:=by kernel_rfl) (hb:X39 P f=true:=by kernel_rfl) :
  OD P ov C ops (⟨dst,.call ⟨.value x,args,ats⟩,ty,pos_,after,none⟩::l) ⟨E,L⟩ q:=OD.callE hf hx hl hr hb h
theorem OD.cO (sel:List Nat) (ds:List D) {x:Operand} {args:Array Operand} {ats:Array TypeId} {f:FuncId} {ds':List D} {Lc:List Ob} {R:D→List Ob→Prop} (hf:FnD P ov f ds' Lc R) (h:∀ r L',R r L'→OD P ov C ops l ⟨pt C.nt (clE sel L' E) dst (XF5 sel L.length r),XHX sel L' L⟩ q)
  (hx:zd E x=some (.fn f):=by rfl) (hl:zdL E args.toList=some ds:=by kernel_rfl) (hr:XIw sel ds=some ds':=by kernel_rfl) (hLc:XIx sel L sel=some Lc:=by kernel_rfl) (hnd:X8N sel=true:=by kernel_rfl) (hb:X39 P f=true:=by kernel_rfl) :
  OD P ov C ops (⟨dst,.call ⟨.value x,args,ats⟩,ty,pos_,after,none⟩::l) ⟨E,L⟩ q:=OD.callO sel hf hx hl hr hLc hnd hb h
theorem OD.cP {x:Operand} {args:Array Operand} {ats:Array TypeId} {f:FuncId} {ds:List D} (R:D→Prop) (hf:FnD P ov f ds [] fun r L'=>R r∧L'=[]) (h:∀ r,R r→OD P ov C ops l ⟨pt C.nt E dst r,L⟩ q)
  (hx:zd E x=some (.fn f):=by rfl) (hl:zdL E args.toList=some ds:=by kernel_rfl) (hr:ds.all X8M=true:=by kernel_rfl) (hb:X39 P f=true:=by kernel_rfl):OD P ov C ops (⟨dst,.call ⟨.value x,args,ats⟩,ty,pos_,after,none⟩::l) ⟨E,L⟩ q:=OD.callP hx hl hr hb hf h
theorem rO {rs:Array ResultVar} {n0:Nat} {E:X19} {L:List Ob} {Q:D→List Ob→Prop} (k:Nat) (r:D) (L':List Ob) (hq:Q r L') (h:X7V P rs ⟨E,L⟩=some r:=by kernel_rfl) (h1:Nat.ble n0 k=true:=by kernel_rfl) (h2:Nat.ble k L.length=true:=by kernel_rfl) (hL:L.take k=L':=by kernel_rfl) (hc:X2G k [(0,r)] L'=true:=by kernel_rfl):XF0 P rs n0 Q ⟨E,L⟩ :=
 XBN k h (Nat.le_of_ble_eq_true h1) (Nat.le_of_ble_eq_true h2) hL hc hq
theorem rOr {rs:Array ResultVar} {n0:Nat} {E:X19} {L:List Ob} {Q:D→List Ob→Prop} (k:Nat) (r:D) (L':List Ob) (hq:Q r L') (h:X7V P rs ⟨E,L⟩=some r:=by kernel_rfl) (h1:Nat.ble n0 k=true:=by kernel_rfl) (h2:Nat.ble k L.length=true:=by kernel_rfl) (hL:L.take k=L':=by kernel_rfl) (hc:X2G k [(0,r)] L'=true:=by kernel_rfl):(XIs P rs n0 Q).r ⟨E,L⟩:=rO k r L' hq h h1 h2 hL hc
theorem rOn {rs:Array ResultVar} {n0:Nat} {E:X19} {L:List Ob} {Q:D→List Ob→Prop} (k:Nat) (r:D) (L':List Ob) (hq:Q r L') (h:X7V P rs ⟨E,L⟩=some r:=by kernel_rfl) (h1:Nat.ble n0 k=true:=by kernel_rfl) (h2:Nat.ble k L.length=true:=by kernel_rfl) (hL:L.take k=L':=by kernel_rfl) (hc:X2G k [(0,r)] L'=true:=by kernel_rfl):(XIs P rs n0 Q).n ⟨E,L⟩:=rO k r L' hq h h1 h2 hL hc
theorem bs:(∀ b:Bool,(true && b)=b)∧(∀ b:Bool,(false && b)=false)∧(∀ b:Bool,(b && true)=b)∧(∀ b:Bool,(b && false)=false)∧(∀ b:Bool,(true || b)=true)∧(∀ b:Bool,(false || b)=b)∧(∀ b:Bool,(b || true)=true)∧(∀ b:Bool,(b || false)=b) ∧
  (!true)=false∧(!false)=true∧(¬ True)=False∧(¬ False)=True∧(∀ p:Prop,(p∧True)=p)∧(∀ p:Prop,(True∧p)=p)∧(∀ p:Prop,(p∨True)=True)∧(∀ p:Prop,(True∨p)=True)∧(∀ p:Prop,(p∨False)=p)∧(∀ p:Prop,(False∨p)=p)∧(∀ p:Prop,(p∧False)=False)∧(∀ p:Prop,(False∧p)=False)∧(false=true)=False:=by
 refine⟨?_,?_,?_,?_,?_,?_,?_,?_,rfl,rfl,?_,?_,?_,?_,?_,?_,?_,?_,?_,?_,?_⟩<;>simp
end
end Go.Vai

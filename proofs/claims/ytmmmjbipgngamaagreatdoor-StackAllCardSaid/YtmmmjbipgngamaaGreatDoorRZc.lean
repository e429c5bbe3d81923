/-
  What is proved here: calls that only look at a box of a plain cell, a row and a plain cell; regions that lay down rows of a copy of a row onto nil; a part of frozen data put behind a row; loads from a frozen box (part RZd) a region that takes parts of a box's row and makes a new one of them (part RZe). No conditions but those that the theorems state.
-/
import Derived.Test.YtmmmjbipgngamaaGreatDoorRY
import Derived.Test.YtmmmjbipgngamaaGreatDoorQH
set_option linter.unusedVariables false
set_option linter.unusedSimpArgs false
namespace Go.Vai
noncomputable section
variable {P:Program} {ov:Ov} {C:Cx0}
variable {ops:Array Oper} {dst:Option Nat} {ty:TypeId} {pos_:String} {after:Array Edge} {l:List Oper} {E:X0m} {L:List Ob} {q:SD→Prop}
theorem CD.drawnR (i k i' k':Nat) {id:Nat} {σ:SD} {Q:X4E} {ops':Array Oper} {rl:List Oper} (he:X0l P ops=ops') (hr:(X1H P 0 ops.toList).map (·.o)=rl) (ht:X8f P i k i' k' C.nt ops ops'=true)
  (h:OD P ov C ops' ops'.toList σ fun σ'=>X6x (X4C ops') σ'.E=true∧OD P ov C ops' rl σ' Q.n):CD P ov C (.region id ops true) σ Q:=by
 intro g s a S
 refine Cx.drawnR (W':=fun a'=>X1C (·∈C.g0.cls) C.a0 a') i k i' k' he hr ht ((h g s a S).mono fun s' a' k=>?_)
 obtain⟨σ',g',S',k1,k2⟩:=k
 refine⟨fun d hd=>?_,k2 g' s' a' S'⟩
 have:=List.all_eq_true.1 k1 d hd
 split at this
 · rename_i x hx;exact X9m (S'.env d x hx) this
 · cases this
theorem XBk {jb jr o n c e N:Nat} {d0 d1:D} {cells:List D} (hL:L[jb]?=some (.box [d0,.row jr o n c,d1])) (hR:L[jr]?=some (.row e N cells)) (h0:X22 d0=true) (h1:X22 d1=true) (hn:o+n*e≤cells.length) (hc:n≤c)
  {g:Gh} {s:Env} {a:AH} (S:SR C ⟨E,L⟩ g s a):∃ b k,g[jb]?=some (some (b,k))∧X9e (MM C.M []) a b [d0,.sl e n ((cells.drop o).take (n*e)),d1]:=by
 have hjl:=(List.getElem?_eq_some_iff.1 hL).1
 have hlen:g.length=L.length:=S.len
 have hg:g[jb]?=some g[jb]:=List.getElem?_eq_getElem (by omega)
 obtain⟨b,k,vs,e0,p1,p2⟩:=S.obj jb _ _ hg hL
 rw [e0]at hg
 have hk:k∈g.cls:=Gh.mem_cls.2 ⟨jb,b,hg⟩
 have no:∀ k,k∈g.cls→¬ MM C.M [] k:=fun k hk m=>by
  rcases m with m | m
  · exact(S.nm k hk).1 m
  · cases m
 have sub:∀ k,k<a.next→MM C.M [] k→MM C.M g k:=fun k _ m=>by
  rcases m with m | m
  · exact .inl m
  · cases m
 refine⟨b,k,hg,vs,k,p1,no k hk,(S.nm k hk).2.1,?_⟩
 cases p2 with
 | cons a0 t=>cases t with
  | cons a2 t=>cases t with
   | cons a1 t =>
    cases t
    refine .cons ((X40 h0 a0:DL (MM C.M []) [] a d0 _).cr (by cases d0<;>first | rfl | cases h0)) (.cons ?_ (.cons ((X40 h1 a1:DL (MM C.M []) [] a d1 _).cr (by cases d1<;>first | rfl | cases h1)) .nil))
    rcases a2 with⟨g1,rfl,rfl,rfl⟩ | ⟨b',k',g1,rfl⟩
    · rw [Nat.zero_mul,List.take_zero];exact .nil
    ·
     obtain⟨hl,⟨e2,_⟩ | ⟨b2,k2,ws,e2,r2,r3⟩⟩:=S.obj jr _ _ g1 hR
     · cases e2
     cases e2
     have hk':k'∈g.cls:=Gh.mem_cls.2 ⟨jr,b',g1⟩
     refine X4U.cr ⟨⟨ws,k',true,e⟩,r2,no k' hk',(S.nm k' hk').2.1,rfl,by rw [List.length_take,List.length_drop];omega,by rw [← r3.length];exact hn,fun i d hd=>?_⟩ hc
     rw [List.getElem?_take]at hd
     split at hd
     case isFalse=>cases hd
     rw [List.getElem?_drop]at hd
     obtain⟨v,s1,s2⟩:=r3.get _ _ hd
     exact⟨v,s1,s2.mono (X1C.refl (fun _=>False) a) (fun _ f=>f.elim) sub⟩
theorem OD.callFy {jb jr o n c e N:Nat} {d0 d1:D} {cells rest:List D} {x:Operand} {args:Array Operand} {ats:Array TypeId} {f:FuncId} {R:D→Prop}
  (hf:FnD P ov f (.bx [d0,.sl e n ((cells.drop o).take (n*e)),d1] 0::rest) [] fun r L'=>R r∧L'=[]) (hx:zd E x=some (.fn f)) (hl:zdL E args.toList=some (.loc jb 0::rest))
  (hL:L[jb]?=some (.box [d0,.row jr o n c,d1])) (hR:L[jr]?=some (.row e N cells)) (h0:X22 d0=true) (h1:X22 d1=true) (hrest:rest.all X22=true) (hn:o+n*e≤cells.length) (hc:n≤c) (hb:X1z P f=true)
  (hfl:∀ r,R r→XFd r=true) (h:∀ r,R r→OD P ov C ops l ⟨pt C.nt E dst r,L⟩ q):OD P ov C ops (⟨dst,.call ⟨.value x,args,ats⟩,ty,pos_,after,none⟩::l) ⟨E,L⟩ q:=by
 intro g s a S
 obtain⟨b,k,hg,hbx⟩:=XBk hL hR h0 h1 hn hc S
 obtain⟨v,q1,q2⟩:=X0C S hx
 cases q2
 obtain⟨vs,q3,q4⟩:=X9j S hl
 have hargs:F2 (D1 (MM C.M []) [] a) (.bx [d0,.sl e n ((cells.drop o).take (n*e)),d1] 0::rest) vs:=by
  cases q4 with
  | cons a0 t =>
   obtain⟨b',k',e1,rfl⟩:=a0
   rw [hg]at e1;cases e1
   have hr:=List.all_eq_true.1 hrest
   exact .cons ⟨b,rfl,hbx⟩ (t.mono_mem fun x hx y r=>X9o (hr x hx) r)
 have F:=hf C.M [] a vs S.ok (fun k m=>S.mmlt (.inl m)) rfl .nil (fun k hk=>by cases hk) (fun i x o e _=>by cases e) hargs
 refine X31.cons S.kp (fun _ _=>rfl) (X4e.call rfl q1 q3 hb (fi:=#[]) (ca:=#[]) ?_)
 simp only [List.nil_append,List.append_nil]
 refine F.mono fun u a' hu=>?_
 obtain⟨r,L',g',r1,r2,r3,r4,r5,r6,r7,r8,r9,r10,rR,rfl⟩:=hu
 have K:X1C (fun _=>False) a a':=r7.weak fun k hk=>by cases hk
 exact h r rR g _ a' ((S.keep0 K r8).put (X6z (hfl r rR) r1) dst)
theorem F2.flat {M M':Nat→Prop} {a a':AH}:∀ {cs:List D} {vs:List Value},cs.all X22=true→F2 (CR M a) cs vs→F2 (CR M' a') cs vs:=by
 intro cs vs h r
 induction r with
 | nil=>exact .nil
 | cons x t ih =>
  simp only [List.all_cons,Bool.and_eq_true]at h
  refine .cons ?_ (ih h.2)
  rename_i d v l m
  have hd:=h.1
  cases d with
  | int k z=>cases x;exact CR.int
  | bool b=>cases x;exact CR.bool
  | str s=>cases x;exact CR.str
  | _=>cases hd
theorem SR.adopt {g g':Gh} {s s':Env} {a a':AH} {bx:Nat→Prop} {E':X0m} {e N:Nat} {cs:List D} (S:SR C ⟨E,L⟩ g s a) (S':SR ⟨C.nt,C.M,a,[],bx⟩ ⟨E',[.row e N cs]⟩ g' s' a') (hfl:cs.all X22=true):SR C ⟨[],L++[.row e N cs]⟩ (g++g') s' a':=by
 have K:X1C (fun _=>False) a a':=S'.kp.weak fun k hk=>by cases hk
 have hlen:g.length=L.length:=S.len
 have hlen':g'.length=1:=S'.len
 have hnx:a.next≤a'.next:=K.next
 have S0:=S.keep0 K S'.ok
 have hcls:∀ k,k∈Gh.cls (g++g')↔k∈g.cls∨k∈g'.cls:=fun k=>by rw [Gh.cls_app];exact List.mem_append
 have new:∀ k,k∈g'.cls→a.next≤k:=fun k hk=>by
  rcases(S'.nm k hk).2.2 with h | h
  · cases h
  · exact h
 have hm:∀ k,k<a.next→MM C.M (g++g') k→MM C.M g k:=fun k hk m=>by
  rcases m with m | m
  · exact .inl m
  ·
   rcases(hcls k).1 m with m | m
   · exact .inr m
   · have:=new k m;omega
 refine⟨S'.ok,S.old,(fun t d h=>by cases h),(by simp [hlen,hlen']),?_,fun i x o e1 e2=>?_,?_,fun k hk=>?_,S0.kp,S.ok0,fun i b k cs0 e1 e2=>?_,fun i cs0 hi e2=>?_⟩
 · have:=S.pl;simp;omega
 ·
  rcases Nat.lt_or_ge i L.length with hi | hi
  ·
   have e2:(L++[.row e N cs])[i]?=some o:=e2
   rw [List.getElem?_append_left hi]at e2
   rw [List.getElem?_append_left (by omega)]at e1
   have O:=S.obj i x o e1 e2
   cases o with
   | box cs1 =>
    obtain⟨b,k,vs,rfl,p1,p2⟩:=O
    exact⟨b,k,vs,rfl,K.blk _ _ p1 (fun f=>f),p2.mono fun _ _ r=>DL.mono K (fun _ f=>f.elim) hm (Gh.On.app _ _) r⟩
   | row e n cs1 =>
    obtain⟨hl,O⟩:=O
    refine⟨hl,?_⟩
    rcases O with O | ⟨b,k,vs,rfl,p1,p2⟩
    · exact .inl O
    · exact .inr ⟨b,k,vs,rfl,K.blk _ _ p1 (fun f=>f),p2.mono fun _ _ r=>r.mono K (fun _ f=>f.elim) hm⟩
   | dead=>exact O
  ·
   have e2:(L++[.row e N cs])[i]?=some o:=e2
   rw [List.getElem?_append_right hi]at e2
   rw [List.getElem?_append_right (by omega),hlen]at e1
   have hi0:i - L.length=0:=by
    have:=(List.getElem?_eq_some_iff.1 e2).1
    simp at this;omega
   rw [hi0]at e1 e2
   simp only [List.getElem?_cons_zero,Option.some.injEq]at e2
   subst e2
   obtain⟨hl,O⟩:=S'.obj 0 x (.row e N cs) e1 rfl
   refine⟨hl,?_⟩
   rcases O with O | ⟨b,k,vs,rfl,p1,p2⟩
   · exact .inl O
   · exact .inr ⟨b,k,vs,rfl,p1,F2.flat hfl p2⟩
 ·
  rw [Gh.cls_app]
  refine List.nodup_append.2 ⟨S.nd,S'.nd,fun x h1 y h2 e=>?_⟩
  subst e
  have:=new x h2
  have:=(S.nm x h1).2.1
  omega
 ·
  rcases(hcls k).1 hk with h | h
  ·
   obtain⟨r1,r2,r3⟩:=S.nm k h
   exact⟨r1,by omega,r3⟩
  ·
   obtain⟨r1,r2,r3⟩:=S'.nm k h
   have:=new k h
   have:=S.kp.next
   exact⟨r1,r2,.inr (by omega)⟩
 ·
  have e2:(L++[.row e N cs])[i]?=some (.box cs0):=e2
  have hi:i<L.length:=by
   rcases Nat.lt_or_ge i L.length with hi | hi
   · exact hi
   ·
    rw [List.getElem?_append_right hi]at e2
    have hi0:i - L.length=0:=by
     have:=(List.getElem?_eq_some_iff.1 e2).1
     simp at this;omega
    rw [hi0]at e2;simp at e2
  rw [List.getElem?_append_left hi]at e2
  rw [List.getElem?_append_left (by omega)]
  exact S.pre i b k cs0 e1 e2
 ·
  have e2:(L++[.row e N cs])[i]?=some (.box cs0):=e2
  have:i<L.length:=by have:=S.pl;omega
  rw [List.getElem?_append_left this]at e2
  exact S.pk i cs0 hi e2
end
end Go.Vai
namespace Go.Vai
noncomputable section
variable {P:Program} {ov:Ov} {C:Cx0}
variable {ops:Array Oper} {dst:Option Nat} {ty:TypeId} {pos_:String} {after:Array Edge} {l:List Oper} {E:X0m} {L:List Ob} {q:SD→Prop}
theorem OD.appCR {args:Array Operand} {ats:Array TypeId} {y:Operand} {e m k0 o0 c0 N0:Nat} {ds cs0:List D} (ha:args.toList=[.const (.slice none 0 0),y]) (ht:Go.Vai.X8m P ats=some e) (hy:zd E y=some (.row k0 o0 m c0)) (hK:L[k0]?=some (.row e N0 cs0)) (hb:o0+m*e≤cs0.length) (hd:(cs0.drop o0).take (m*e)=ds) (h1:m*e≤100000000) (h2:m≤100000000)
  (h:OD P ov C ops l ⟨pt C.nt E dst (.row L.length 0 m m),L++[.row e m ds]⟩ q):OD P ov C ops (⟨dst,.call ⟨.builtin .append,args,ats⟩,ty,pos_,after,none⟩::l) ⟨E,L⟩ q:=by
 refine OD.heap (fun g s a S=>?_) h
 obtain⟨vy,new,p1,x1,x2,x3⟩:=X5F hy hK hb hd g s a S
 have hnew:new.length=m*e:=by rw [← x2.length];exact x3
 have hc:zev s (.const (.slice none 0 0))=some (.slice none 0 0):=rfl
 rcases Nat.eq_zero_or_pos m with h0 | h0
 ·
  subst h0
  have hn0:new=[]:=List.length_eq_zero_iff.1 (by omega)
  subst hn0
  have hd0:ds=[]:=List.length_eq_zero_iff.1 (by rw [x2.length];rfl)
  subst hd0
  have hz:X0S a (.slice none 0 0) e 0 0 0 []=some (.slice none 0 0,a):=rfl
  obtain⟨r1,r2⟩:=X2k ht rfl x1 (by simp) (by omega) (by omega) hz
  refine⟨.slice none 0 0,a,g++[none],?_,S.nilRow e,.inl ⟨by rw [← S.len];simp,rfl,rfl,rfl⟩⟩
  simp only [X0P,ha,X3i,hc,p1];exact r1
 ·
  have hz:X0S a (.slice none 0 0) e 0 0 m new=some (.slice (some ⟨a.next,0,none⟩) m m,a.new new e):=by
   have hble:Nat.ble (0+m) 0=false:=by
    cases hb:Nat.ble (0+m) 0 with
    | false=>rfl
    | true=>have:=Nat.le_of_ble_eq_true hb;omega
   simp only [X0S,hble,Nat.beq_refl,XBC]
  obtain⟨r1,r2⟩:=X2k ht rfl x1 hnew (by rw [Nat.zero_add];exact h1) (by omega) hz
  obtain⟨S',r'⟩:=S.newRow (n:=m) (c:=m) x3 x2 (Nat.le_refl _)
  refine⟨_,_,_,?_,S',r'⟩
  simp only [X0P,ha,X3i,hc,p1];exact r1
theorem OD.appA {args:Array Operand} {ats:Array TypeId} {x y:Operand} {j e n m:Nat} {cs ds:List D} (ha:args.toList=[x,y]) (ht:Go.Vai.X8m P ats=some e) (hx:zd E x=some (.row j 0 n n)) (hL:L[j]?=some (.row e n cs)) (hy:zd E y=some (.sl e m ds))
  (hl:cs.length=n*e) (hm:ds.length=m*e) (h1:(n+m)*e≤100000000) (h2:n+m≤100000000)
  (h:OD P ov C ops l ⟨pt C.nt (X3a j E) dst (.row j 0 (n+m) (n+m)),X37 j (L.set j (.row e (n+m) (cs++ds)))⟩ q):OD P ov C ops (⟨dst,.call ⟨.builtin .append,args,ats⟩,ty,pos_,after,none⟩::l) ⟨E,L⟩ q:=by
 rcases Nat.eq_zero_or_pos m with h0 | h0
 ·
  subst h0
  have hd0:ds=[]:=List.length_eq_zero_iff.1 (by rw [hm];simp)
  subst hd0
  rw [List.append_nil,Nat.add_zero]at h
  rcases Nat.eq_zero_or_pos n with hn | hn
  ·
   subst hn
   exact OD.appN ha ht hx hL hy h
  ·
   refine OD.appI ha ht hx hL hy (Nat.le_refl _) (Nat.le_refl _) hn h1 h2 ?_
   rw [Nat.add_zero,List.append_nil,List.take_append_drop]
   exact h
 ·
  refine OD.appG ha ht hx hL hy (Nat.le_refl _) (by omega) h1 h2 ?_
  rw [← hl,List.take_length]
  exact h
theorem OD.ldBg {nt:Nat} {M1:Nat→Prop} {a1:AH} {bx:Nat→Prop} {b o:Nat} {cs:List D} {t:TypeId} {x:Operand} {d:D} (hk:X9e (MM M1 []) a1 b cs) (hx:zd E x=some (X0s b o)) (hd:X4g P t cs o=some d)
  (h:OD P ov ⟨nt,M1,a1,[],bx⟩ ops l ⟨pt nt E dst d,L⟩ q):OD P ov ⟨nt,M1,a1,[],bx⟩ ops (⟨dst,.load t x,ty,pos_,after,none⟩::l) ⟨E,L⟩ q:=by
 refine OD.plain (fun g s a S=>?_) h
 obtain⟨vx,q1,q2⟩:=X0C S hx
 have q2:=X1i q2
 subst q2
 obtain⟨vs,k,h1,h2,h3,h4⟩:=hk.ex
 have h1':=S.kp.blk _ _ h1 (fun hm=>by cases hm)
 obtain⟨v,r1,r2⟩:=X1h (M:=MM M1 []) (g:=[]) (a:=a1) hd h1 (h4.mono fun _ _ r=>r.dl)
 refine⟨v,?_,DR.mono S.kp (fun k hk=>by cases hk) (fun k hk m=>?_) (fun i x e=>by cases e) r2⟩
 ·
  simp only [X0P,q1]
  refine X0E ?_
  rw [← r1]
  unfold X3t AH.rd AH.rdL
  simp only [h1,h1']
 ·
  rcases m with m | m
  · exact .inl m
  ·
   rcases(S.nm k m).2.2 with h | h
   · cases h
   ·
    have h:a1.next≤k:=h
    omega
end
end Go.Vai
namespace Go.Vai
noncomputable section
variable {P:Program} {ov:Ov} {C:Cx0}
variable {ops:Array Oper} {dst:Option Nat} {ty:TypeId} {pos_:String} {after:Array Edge} {l:List Oper} {E:X0m} {L:List Ob} {q:SD→Prop}
theorem X4U.part {M:Nat→Prop} {a:AH} {b i e n lw m:Nat} {cs:List D} (h:X4U M a b i e n cs) (hm:lw+m≤n):X4U M a b (i+lw*e) e m ((cs.drop (lw*e)).take (m*e)):=by
 obtain⟨B,h1,h2,h3,h4,h5,h6,h7⟩:=h.ex
 have hb:lw*e+m*e≤n*e:=by rw [← Nat.add_mul];exact Nat.mul_le_mul_right e hm
 refine⟨B,h1,h2,h3,h4,?_,by omega,fun j d he=>?_⟩
 · rw [List.length_take,List.length_drop];omega
 ·
  rw [List.getElem?_take]at he
  split at he
  ·
   rw [List.getElem?_drop]at he
   obtain⟨v,q1,q2⟩:=h7 _ d he
   exact⟨v,by rw [Nat.add_assoc];exact q1,q2⟩
  · cases he
theorem XGr {nt:Nat} {M1:Nat→Prop} {a1:AH} {g0:Gh} {bx:Nat→Prop} {σ:SD} {g:Gh} {s:Env} {a:AH} (S:SR ⟨nt,M1,a1,g0,bx⟩ σ g s a) {w:Option Operand} {d u:Nat} (h:(w=none∧u=d)∨∃ o k,w=some o∧zd σ.E o=some (.int k (u:Int))):∃ ow,X4d s w=some ow∧X0j ow d=some u:=by
 rcases h with⟨rfl,rfl⟩ | ⟨o,k,rfl,ho⟩
 · exact⟨none,rfl,rfl⟩
 ·
  obtain⟨v,q1,q2⟩:=X0C S ho
  cases q2
  refine⟨some (.int k (u:Int)),by simp only [X4d,q1],?_⟩
  have:decide ((0:Int)≤(u:Int))=true:=decide_eq_true (Int.natCast_nonneg u)
  simp [X0j]
theorem X8r {nt:Nat} {M1:Nat→Prop} {a1:AH} {bx:Nat→Prop} {σ:SD} {g:Gh} {s:Env} {a a':AH} (S:SR ⟨nt,M1,a1,[],bx⟩ σ g s a) {b0 i0 il m cl e n lw u:Nat} {cs:List D} {t:TypeId} {lo hi:Option Operand} (hsl:X4U (MM M1 []) a1 b0 i0 e n cs) (K:X1C (·∈Gh.cls []) a1 a') (ht:X2s P t=some e)
  (hlo:(lo=none∧lw=0)∨∃ o k,lo=some o∧zd σ.E o=some (.int k (lw:Int))) (hhi:(hi=none∧u=m)∨∃ o k,hi=some o∧zd σ.E o=some (.int k (u:Int))) (h1:lw≤u) (h2:u≤cl) :
  ∃ ol oh,X4d s lo=some ol∧X4d s hi=some oh∧X33 P a' t (.slice (some ⟨b0,il,none⟩) m cl) ol oh=some (.slice (some ⟨b0,il+lw*e,none⟩) (u - lw) (cl - lw)):=by
 obtain⟨elem,hu,hs⟩:=X2W ht
 obtain⟨ol,l1,l2⟩:=XGr S hlo
 obtain⟨oh,u1,u2⟩:=XGr S hhi
 obtain⟨B,b1,b2,b3,b4,_⟩:=hsl.ex
 have b1':=K.blk _ _ b1 (fun hm=>by cases hm)
 refine⟨ol,oh,l1,u1,?_⟩
 have e1:Nat.ble lw u=true:=by simpa using h1
 have e2:Nat.ble u cl=true:=by simpa using h2
 have e3:Nat.beq B.e e=true:=by rw [b4];exact Nat.beq_refl e
 simp only [X33,hu,hs,l2,u2,b1',e1,e2,e3,Bool.and_self]
theorem OD.slLit {nt:Nat} {M1:Nat→Prop} {a1:AH} {bx:Nat→Prop} {b0 i0 il m cl e n lw u:Nat} {cs:List D} {t:TypeId} {x:Operand} {lo hi:Option Operand} (hsl:X4U (MM M1 []) a1 b0 i0 e n cs) (hx:zd E x=some (X49 b0 il m cl)) (ht:X2s P t=some e)
  (hlo:(lo=none∧lw=0)∨∃ o k,lo=some o∧zd E o=some (.int k (lw:Int))) (hhi:(hi=none∧u=m)∨∃ o k,hi=some o∧zd E o=some (.int k (u:Int))) (h1:lw≤u) (h2:u≤cl)
  (h:OD P ov ⟨nt,M1,a1,[],bx⟩ ops l ⟨pt nt E dst (X49 b0 (il+lw*e) (u - lw) (cl - lw)),L⟩ q):OD P ov ⟨nt,M1,a1,[],bx⟩ ops (⟨dst,.slice t x lo hi none,ty,pos_,after,none⟩::l) ⟨E,L⟩ q:=by
 refine OD.plain (fun g s a S=>?_) h
 obtain⟨vx,q1,q2⟩:=X0C S hx
 have q2:=X1i q2
 subst q2
 obtain⟨ol,oh,l1,u1,z⟩:=X8r (il:=il) (m:=m) (cl:=cl) S hsl S.kp ht hlo hhi h1 h2
 refine⟨_,?_,CR.lit rfl⟩
 simp only [X0P,q1,l1,u1,z];rfl
theorem OD.unlit {nt:Nat} {M1:Nat→Prop} {a1:AH} {bx:Nat→Prop} {b0 i0 m cl e n:Nat} {cs ds:List D} (t lw:Nat) (hsl:X4U (MM M1 []) a1 b0 i0 e n cs) (hl:lk E t=some (X49 b0 (i0+lw*e) m cl)) (hm:lw+m≤n) (hc:m≤cl) (hd:(cs.drop (lw*e)).take (m*e)=ds)
  (h:OD P ov ⟨nt,M1,a1,[],bx⟩ ops l ⟨setv t (.sl e m ds) E,L⟩ q):OD P ov ⟨nt,M1,a1,[],bx⟩ ops l ⟨E,L⟩ q:=fun g s a S=>by
 subst hd
 refine h g s a ⟨S.ok,S.old,fun u d e1=>?_,S.len,S.pl,S.obj,S.nd,S.nm,S.kp,S.ok0,S.pre,S.pk⟩
 rcases X6u e1 with⟨rfl,rfl,_⟩ | ⟨_,h2⟩
 ·
  have hv:=X1i (S.env u _ hl)
  rw [hv]
  exact X4U.cr (X4U.now (hsl.part hm) S) hc
 · exact S.env u d h2
def XFe (P:Program) (ops:Array Oper) (b0 e:Nat) (E:X0m):List Nat→Prop
 | []=>True
 | i::l=>(∃ t x lo hi il m cl lw u,XGZ ops i=some (t,x,lo,hi)∧lk E x=some (X49 b0 il m cl)∧X2s P t=some e∧((lo=none∧lw=0)∨∃ o k,lo=some o∧zd E o=some (.int k ((lw:Nat):Int)))∧((hi=none∧u=m)∨∃ o k,hi=some o∧zd E o=some (.int k ((u:Nat):Int)))∧lw≤u∧u≤cl)∧XFe P ops b0 e E l
theorem XFf {nt:Nat} {M1:Nat→Prop} {a1:AH} {bx:Nat→Prop} {b0 i0 e n:Nat} {cs:List D} {σ:SD} {g:Gh} {s:Env} {a:AH} (hsl:X4U (MM M1 []) a1 b0 i0 e n cs) (S:SR ⟨nt,M1,a1,[],bx⟩ σ g s a):∀ {fs:List Nat},XFe P ops b0 e σ.E fs→FrzC P ops (fun a'=>X1C (·∈Gh.cls []) a1 a') fs s:=by
 intro fs
 induction fs with
 | nil=>intro _ y hy;cases hy
 | cons y l ih =>
  intro hf z hz t x lo hi eq
  obtain⟨⟨t',x',lo',hi',il,m,cl,lw,u,f1,f2,f3,f4,f5,f6,f7⟩,f8⟩:=hf
  rcases List.mem_cons.1 hz with rfl | hz
  ·
   rw [f1]at eq;cases eq
   have hv:=X1i (S.env _ _ f2)
   obtain⟨ol,oh,l1,u1,_⟩:=X8r (il:=il) (m:=m) (cl:=cl) (a':=a1) S hsl (X1C.refl _ _) f3 f4 f5 f6 f7
   refine⟨ol,oh,.slice (some ⟨b0,il+lw*e,none⟩) (u - lw) (cl - lw),l1,u1,fun a' K=>?_⟩
   obtain⟨ol',oh',l1',u1',z⟩:=X8r (il:=il) (m:=m) (cl:=cl) S hsl K f3 f4 f5 f6 f7
   rw [l1]at l1';rw [u1]at u1'
   cases l1';cases u1'
   rw [hv];exact z
  · exact ih f8 z hz t x lo hi eq
theorem XFg {M:Nat→Prop} {a:AH} {b e n:Nat} {d0 d1:D} {cs:List D} (h:X9e M a b [d0,.sl e n cs,d1]) (hp:0<n):∃ b0 i0 c0,n≤c0∧X4U M a b0 i0 e n cs∧X9e M a b [d0,X49 b0 i0 n c0,d1]:=by
 obtain⟨vs,k,h1,h2,h3,h4⟩:=h.ex
 cases h4 with
 | cons r0 h4=>cases h4 with
  | cons r1 h4 =>
   rcases CR.sl_inv r1 with⟨rfl,_,_⟩ | ⟨b0,i0,c0,rfl,hc,hsl⟩
   · omega
   · exact⟨b0,i0,c0,hc,hsl,⟨_,k,h1,h2,h3,.cons r0 (.cons (CR.lit rfl) h4)⟩⟩
def bkN (j:Nat):List (Nat×Nat)→X0m
 | []=>[]
 | (t,o)::l=>(t,.loc j o)::bkN j l
theorem XEW {j b:Nat} {E R:X0m}:∀ {bk:List (Nat×Nat)} {t:Nat} {d:D},BkD b E bk→lk (bkN j bk++R) t=some d→(∃ o,lk E t=some (X0s b o)∧d=.loc j o)∨lk R t=some d
 | [],t,d,_,e=>.inr e
 | (u,o)::l,t,d,h,e=>by
  rcases X1g e with⟨rfl,rfl⟩ | ⟨_,e2⟩
  · exact .inl ⟨o,h.1,rfl⟩
  · exact XEW h.2 e2
theorem CD.drawnY (fz fs:List Nat) (bk:List (Nat×Nat)) (t m cc:Nat) {jb jr o n c e N N':Nat} {d0 d1:D} {cells cells':List D} {id:Nat} {Q:X4E} {opsP:Array Oper} {last:Oper} (hops:ops=opsP.push last) (hL:L[jb]?=some (.box [d0,.row jr o n c,d1])) (hR:L[jr]?=some (.row e N cells)) (h0:X22 d0=true) (h1:X22 d1=true) (hn:o+n*e≤cells.length) (hc:n≤c) (hp:0<n) (ht:X8j fz fs C.nt opsP last=true) (hfl:cells'.all X22=true)
  (h:∀ (M1:Nat→Prop) (a1:AH) (bx1:Nat→Prop) (b b0 i0 c0:Nat),n≤c0→X4U (MM M1 []) a1 b0 i0 e n ((cells.drop o).take (n*e))→X9e (MM M1 []) a1 b [d0,X49 b0 i0 n c0,d1]→OD P ov ⟨C.nt,M1,a1,[],bx1⟩ opsP opsP.toList ⟨lbE jb b E,[]⟩ fun σ' =>
   X6x (X4C opsP) σ'.E=true∧FrzB P opsP b [d0,X49 b0 i0 n c0,d1] σ'.E fz∧XFe P opsP b0 e σ'.E fs∧BkD b σ'.E bk∧σ'.L=[.row e N' cells']∧lk σ'.E t=some (.row 0 0 m cc))
  (h2:OD P ov C opsP [last] ⟨bkN jb bk++[(t,.row L.length 0 m cc)],L++[.row e N' cells']⟩ Q.n):CD P ov C (.region id ops true) ⟨E,L⟩ Q:=by
 subst hops
 intro g s a S
 obtain⟨b,k,hg,hbx⟩:=XBk hL hR h0 h1 hn hc S
 obtain⟨b0,i0,c0,hc0,hsl,hbx⟩:=XFg hbx hp
 have S1:SR ⟨C.nt,C.M,a,[],fun _=>False⟩ ⟨lbE jb b E,[]⟩ [] s a:=by
  refine⟨S.ok,fun k m=>S.mmlt (.inl m),fun t d e=>?_,rfl,Nat.le_refl _,(fun i x o e _=>by cases e),.nil,(fun k hk=>by cases hk),X1C.refl _ _,S.ok,(fun i b k cs e _=>by cases e),(fun i cs e _=>by cases e)⟩
  obtain⟨x,hx,rfl⟩:=X8q e
  exact XEV hg (S.env t x hx)
 refine Cx.drawnY (W':=fun a'=>X1C (·∈C.g0.cls) C.a0 a') ht ((h C.M a (fun _=>False) b b0 i0 c0 hc0 hsl hbx _ s a S1).mono fun s' a' k'=>?_)
 obtain⟨σ',g',S',k1,k2,kc,kb,k3,k4⟩:=k'
 obtain⟨E',L'⟩:=σ'
 have k3:L'=[.row e N' cells']:=k3
 subst k3
 refine⟨fun d hd=>?_,XBj hbx S' k2,XFf hsl S' kc,?_⟩
 ·
  have:=List.all_eq_true.1 k1 d hd
  split at this
  · rename_i x hx;exact X9m (S'.env d x hx) this
  · cases this
 ·
  have S2:=S.adopt S' hfl
  have hlen:g.length=L.length:=S.len
  refine h2 (g++g') s' a' ⟨S2.ok,S2.old,fun u d e=>?_,S2.len,S2.pl,S2.obj,S2.nd,S2.nm,S2.kp,S2.ok0,S2.pre,S2.pk⟩
  rcases XEW kb e with⟨o',h1,rfl⟩ | h3
  ·
   have hjl:jb<g.length:=by have:=(List.getElem?_eq_some_iff.1 hg).1;exact this
   exact⟨b,k,by rw [List.getElem?_append_left hjl];exact hg,X1i (S'.env u _ h1)⟩
  ·
   rcases X1g h3 with⟨rfl,rfl⟩ | ⟨_,h4⟩
   ·
    have hr:=S'.env u _ k4
    have hat:∀ x,g'[0]?=some x→(g++g')[L.length]?=some x:=fun x hx=>by rw [List.getElem?_append_right (by omega),hlen,Nat.sub_self];exact hx
    rcases hr with⟨g1,r2,r3,r4⟩ | ⟨b',k',g1,r2⟩
    · exact .inl ⟨hat _ g1,r2,r3,r4⟩
    · exact .inr ⟨b',k',hat _ g1,r2⟩
   · cases h4
end
end Go.Vai

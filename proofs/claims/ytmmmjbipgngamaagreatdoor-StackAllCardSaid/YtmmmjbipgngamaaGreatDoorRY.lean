/-
  What is proved here: closures that hold places and plain data (part RY). a part of a row with three bounds; a row's cells made zero; a row that goes to another place of the  a region whose loads from a row that nobody writes are not ordered with its calls (part RZb). No conditions but those that the theorems state.
-/
import Derived.Test.YtmmmjbipgngamaaGreatDoorRM
import Derived.WideShapes
set_option linter.unusedVariables false
set_option linter.unusedSimpArgs false
namespace Go.Vai
noncomputable section
variable {P:Program} {ov:Ov} {C:Cx0}
variable {ops:Array Oper} {dst:Option Nat} {ty:TypeId} {pos_:String} {after:Array Edge} {l:List Oper} {E:X0m} {L:List Ob} {q:SD→Prop}
def XGl:D→Bool
 | .loc _ _=>true
 | .int _ _=>true
 | .bool _=>true
 | .str _=>true
 | _=>false
def zdC (E:X0m):List Operand→Option (List D)
 | []=>some []
 | x::xs=>match zd E x,zdC E xs with
  | some d,some ds=>match XGl d with
   | true=>some (d::ds)
   | false=>none
  | _,_=>none
theorem XDY {M:Nat→Prop} {g:Gh} {a:AH} {d:D} {v:Value} (h:DR M g a d v) (e:XGl d=true):XE1 v=true∧DL M g a d v:=by
 cases d with
 | loc i o=>obtain⟨b,k,h1,rfl⟩:=h;exact⟨rfl,b,k,h1,rfl⟩
 | int k z=>cases h;exact⟨rfl,CR.int⟩
 | bool b=>cases h;exact⟨rfl,CR.bool⟩
 | str s=>cases h;exact⟨rfl,CR.str⟩
 | _=>cases e
theorem XGm {σ:SD} {g:Gh} {s:Env} {a:AH} (S:SR C σ g s a):∀ {xs:List Operand} {ds:List D},zdC σ.E xs=some ds→∃ vs,X3i s xs=some vs∧vs.all XE1=true∧F2 (DL (MM C.M g) g a) ds vs:=by
 intro xs
 induction xs with
 | nil=>intro ds h;cases h;exact⟨[],rfl,rfl,.nil⟩
 | cons x xs ih =>
  intro ds h
  simp only [zdC]at h
  split at h
  case h_2=>cases h
  rename_i d ds' h1 h2
  split at h
  case h_2=>cases h
  rename_i hc
  cases h
  obtain⟨v,q1,q2⟩:=X0C S h1
  obtain⟨vs,q3,q4,q5⟩:=ih h2
  obtain⟨q6,q7⟩:=XDY q2 hc
  exact⟨v::vs,by simp only [X3i,q1,q3],by simp only [List.all_cons,q6,q4,Bool.and_self],.cons q7 q5⟩
theorem OD.mkC {f:FuncId} {fi ca:Array Operand} {cs:List D} (hfi:fi.toList=[]) (hca:zdC E ca.toList=some cs)
  (h:OD P ov C ops l ⟨pt C.nt E dst (.clo f cs),L⟩ q):OD P ov C ops (⟨dst,.makeFunc (.func f) fi ca,ty,pos_,after,none⟩::l) ⟨E,L⟩ q :=
 OD.plain (fun g s a S=>by
  obtain⟨vs,q1,q2,q3⟩:=XGm S hca
  refine⟨.func (.func f) #[] vs.toArray,?_,vs,rfl,q3⟩
  simp only [X0P,hfi,q1,X3i,List.all_nil,isFn,q2,Bool.and_self]) h
theorem XDZ {t:TypeId} {ox oy:Operand} {a b:ByteArray}:X2b P .eql t ox oy (.string a) (.string b)=some (.bool (decide (a=b))):=by
 show X4K P .eql t ox oy (.string a) (.string b)=_
 unfold X4K
 have hd:(a.toList == b.toList)=decide (a=b):=by
  rw [ByteArray.toList_eq,ByteArray.toList_eq]
  by_cases h:a=b
  · subst h;simp
  ·
   rw [decide_eq_false h]
   have:¬ a.data.toList=b.data.toList:=fun e=>h (Go.WideShapes.bytes_inj e)
   simpa using this
 have hp:X1B P (do eqGuard .eql t ox oy (.string a) (.string b);binOp .eql t (.string a) (.string b))=some (.bool (decide (a=b))):=by
  have h2:X6O P (do eqGuard .eql t ox oy (.string a) (.string b);binOp .eql t (.string a) (.string b))=some (.bool (decide (a=b))):=by
   rw [X0e (a:=()) rfl,← hd]
   rfl
  unfold X1B;rw [h2];rfl
 simp only [show(X01 (.string a) && X01 (.string b))=true from rfl,hp]
theorem XDa {t:TypeId} {ox oy:Operand} {a b:ByteArray}:X2b P .neq t ox oy (.string a) (.string b)=some (.bool (decide (¬ a=b))):=by
 show X4K P .neq t ox oy (.string a) (.string b)=_
 unfold X4K
 have hd:(!(a.toList == b.toList))=decide (¬ a=b):=by
  rw [ByteArray.toList_eq,ByteArray.toList_eq]
  by_cases h:a=b
  · subst h;simp
  ·
   rw [decide_eq_true h]
   have:¬ a.data.toList=b.data.toList:=fun e=>h (Go.WideShapes.bytes_inj e)
   simpa using this
 have hp:X1B P (do eqGuard .neq t ox oy (.string a) (.string b);binOp .neq t (.string a) (.string b))=some (.bool (decide (¬ a=b))):=by
  have h2:X6O P (do eqGuard .neq t ox oy (.string a) (.string b);binOp .neq t (.string a) (.string b))=some (.bool (decide (¬ a=b))):=by
   rw [X0e (a:=()) rfl,← hd]
   rfl
  unfold X1B;rw [h2];rfl
 simp only [show(X01 (.string a) && X01 (.string b))=true from rfl,hp]
theorem OD.eqS {t:TypeId} {x y:Operand} {c:TypeId} {a b:ByteArray} (hx:zd E x=some (.str a)) (hy:zd E y=some (.str b))
  (h:OD P ov C ops l ⟨pt C.nt E dst (.bool (decide (a=b))),L⟩ q):OD P ov C ops (⟨dst,.binOp .eql t x y c,ty,pos_,after,none⟩::l) ⟨E,L⟩ q:=by
 refine OD.plain (fun g s' a' S=>?_) h
 obtain⟨vx,q1,q2⟩:=X0C S hx
 obtain⟨vy,p1,p2⟩:=X0C S hy
 cases q2;cases p2
 exact⟨_,by simp only [X0P,q1,p1];exact X0E XDZ,CR.bool⟩
theorem OD.neS {t:TypeId} {x y:Operand} {c:TypeId} {a b:ByteArray} (hx:zd E x=some (.str a)) (hy:zd E y=some (.str b))
  (h:OD P ov C ops l ⟨pt C.nt E dst (.bool (decide (¬ a=b))),L⟩ q):OD P ov C ops (⟨dst,.binOp .neq t x y c,ty,pos_,after,none⟩::l) ⟨E,L⟩ q:=by
 refine OD.plain (fun g s' a' S=>?_) h
 obtain⟨vx,q1,q2⟩:=X0C S hx
 obtain⟨vy,p1,p2⟩:=X0C S hy
 cases q2;cases p2
 exact⟨_,by simp only [X0P,q1,p1];exact X0E XDa,CR.bool⟩
end
end Go.Vai
namespace Go.Vai
noncomputable section
variable {P:Program} {ov:Ov} {C:Cx0}
variable {ops:Array Oper} {dst:Option Nat} {ty:TypeId} {pos_:String} {after:Array Edge} {l:List Oper} {E:X0m} {L:List Ob} {q:SD→Prop}
theorem OD.sl3R {t:TypeId} {x lo hi mx:Operand} {j o n c e N lw u m:Nat} {k1 k2 k3:IntKind} {cs:List D} (hx:zd E x=some (.row j o n c)) (hL:L[j]?=some (.row e N cs)) (ht:X2s P t=some e)
  (hlo:zd E lo=some (.int k1 (lw:Int))) (hhi:zd E hi=some (.int k2 (u:Int))) (hmx:zd E mx=some (.int k3 (m:Int))) (h1:lw≤u) (h2:u≤m) (h3:m≤c) (h4:lw<m)
  (h:OD P ov C ops l ⟨pt C.nt E dst .any,L⟩ q):OD P ov C ops (⟨dst,.slice t x (some lo) (some hi) (some mx),ty,pos_,after,none⟩::l) ⟨E,L⟩ q:=by
 refine OD.plain (fun g s a S=>?_) h
 obtain⟨elem,hu,hs⟩:=X2W ht
 obtain⟨vx,q1,q2⟩:=X0C S hx
 obtain⟨v1,l1,l2⟩:=X0C S hlo
 obtain⟨v2,u1,u2⟩:=X0C S hhi
 obtain⟨v3,m1,m2⟩:=X0C S hmx
 cases l2;cases u2;cases m2
 rcases q2 with⟨_,_,hc,_⟩ | ⟨b,k,hg,rfl⟩
 · omega
 obtain⟨_,⟨e1,_⟩ | ⟨b',k',vs,e1,r2,r3⟩⟩:=S.obj j _ _ hg hL
 · cases e1
 cases e1
 refine⟨.slice (some ⟨b,o+lw*e,none⟩) (u - lw) (m - lw),?_,trivial⟩
 have b1:Nat.ble lw u=true:=by simpa using h1
 have b2:Nat.ble u m=true:=by simpa using h2
 have b3:Nat.ble m c=true:=by simpa using h3
 have b4:Nat.beq m lw=false:=X38 (by omega)
 have z:∀ (k:IntKind) (n:Nat),X0j (some (.int k (n:Int))) 0=some n:=fun k n=>by simp [X0j]
 simp only [X0P,X4d,q1,l1,u1,m1]
 refine X0E ?_
 simp only [X6l,hu,hs,z,r2,b1,b2,b3,b4,Nat.beq_refl,Bool.and_self]
theorem X9n {zs:List D} (h:zs.all XFU=true):∀ n,(X6H zs n).all XFU=true
 | 0=>rfl
 | n+1=>by simp only [X6H,List.all_append,h,X9n h n,Bool.and_self]
theorem OD.clearR {args:Array Operand} {ats:Array TypeId} {x:Operand} {t:TypeId} {j o n c e N by_:Nat} {cs zs:List D} (ha:args.toList=[x]) (h0:ats[0]?=some t) (ht:XFV P t=some (e,zs,by_)) (hx:zd E x=some (.row j o n c)) (hL:L[j]?=some (.row e N cs)) (hn:0<n) (ho:o+n*e≤cs.length)
  (h:OD P ov C ops l ⟨pt C.nt E dst .any,L.set j (.row e N (cs.take o++X6H zs n++cs.drop (o+n*e)))⟩ q):OD P ov C ops (⟨dst,.call ⟨.builtin .clear,args,ats⟩,ty,pos_,after,none⟩::l) ⟨E,L⟩ q:=by
 refine OD.heap (fun g s a S=>?_) h
 obtain⟨vx,q1,q2⟩:=X0C S hx
 unfold XFV at ht
 split at ht
 case h_2=>cases ht
 rename_i elem hu
 split at ht
 case h_2=>cases ht
 rename_i e'' zs' i h1 h2 h3
 split at ht
 case h_2=>cases ht
 rename_i hc
 simp only [Option.some.injEq,Prod.mk.injEq]at ht
 obtain⟨rfl,rfl,rfl⟩:=ht
 simp only [Bool.and_eq_true,Nat.beq_eq,Nat.blt_eq]at hc
 unfold X5D at h2
 split at h2
 case h_2=>cases h2
 rename_i z hz
 have hzc:=X6F (M:=MM C.M g) (g:=g) (a:=a) (X0W hz) h2
 have hzs:z.cells.size=e'':=by have:=hzc.length;simp at this;omega
 have hlen:(X02 z.cells (n*e'')).length=n*e'':=X0u ..
 have R:F2 (DL (MM C.M g) g a) (X6H zs' n) (X02 z.cells (n*e'')):=by
  refine F2.of_get (by rw [X3P,hlen,hc.1.1]) fun j d v e1 e2=>?_
  have hj:j<n*e'':=by rw [← hlen];exact(List.getElem?_eq_some_iff.1 e2).1
  rw [X4s _ (by omega) _ _ (by rw [hc.1.1];exact hj),hc.1.1]at e1
  rw [X1t _ _ _ (by omega) hj,hzs]at e2
  obtain⟨u,r1,r2⟩:=hzc.get _ _ e1
  simp at r1
  rw [r1]at e2;cases e2
  exact r2
 rcases q2 with⟨_,hn0,_,_⟩ | ⟨b,k,hg,rfl⟩
 · omega
 obtain⟨hl,⟨e1,_⟩ | ⟨b',k',vs,e1,r2,r3⟩⟩:=S.obj j _ _ hg hL
 · cases e1
 cases e1
 have hle:o+(X02 z.cells (n*e'')).length≤vs.length:=by rw [hlen,← r3.length];exact ho
 have hR:(X6H zs' n).length=n*e'':=by rw [R.length,hlen]
 have Rv:=F2.over r3.dl R o (g:=g)
 rw [hR]at Rv
 refine⟨.tuple #[],_,g,?_,S.write hg hL r2 (vs':=over vs o (X02 z.cells (n*e''))) ⟨?_,.inr ⟨b,k,_,rfl,X2V,?_⟩⟩ (fun _ q=>by cases q),trivial⟩
 ·
  have bl:Nat.blt 0 z.cells.size=true:=by rw [hzs];simpa using hc.1.2
  simp only [X0P,ha,X3i,q1,X9V,h0,hu]
  cases n with
  | zero=>omega
  | succ n =>
   simp only [hz,bl]
   have:a.wrL b o (X02 z.cells ((n+1)*z.cells.size))=some { a with blk:=X14 a.blk b ⟨over vs o (X02 z.cells ((n+1)*e'')),k,true,e''⟩ none }:=by
    unfold AH.wrL
    rw [r2,hzs]
    simp only [hle,and_self,if_true]
   rw [this]
 · rw [← hl,Rv.length,X55 _ _ _ hle,r3.length]
 ·
  have K:=X25 (B':=⟨over vs o (X02 z.cells (n*e'')),k,true,e''⟩) r2 rfl
  have R':F2 (CR (MM C.M g) a) (cs.take o++X6H zs' n++cs.drop (o+n*e'')) (over vs o (X02 z.cells (n*e''))):=by
   unfold over
   rw [hlen]
   exact((r3.take o).append (R.cr (X9n hc.2 n))).append (r3.drop _)
  refine R'.mono fun x y r=>r.mono K (fun x q=>?_) (fun _ _ m=>m)
  subst q
  exact .inr (Gh.mem_cls.2 ⟨j,b,hg⟩)
def swS (j k n:Nat):List Nat:=(List.range n).map fun i=>if i=j then k else if i=k then j else i
def swD (j k n:Nat):D→D:=X8n (swS j k n) n
def swE (j k n:Nat) (E:X0m):X0m:=E.map fun p=>(p.1,swD j k n p.2)
def swL (j k:Nat) (L:List Ob):List Ob:=(swS j k L.length).map fun i=>X6I (swS j k L.length) L.length ((L[i]?).getD .dead)
theorem X8p {j k n i:Nat} (h:i<n):(swS j k n)[i]?=some (if i=j then k else if i=k then j else i):=by
 unfold swS
 rw [List.getElem?_map,List.getElem?_range h];rfl
theorem XGn {j k n:Nat}:∀ {E:X0m} {t:Nat} {d:D},lk (swE j k n E) t=some d→∃ x,lk E t=some x∧d=swD j k n x:=by
 intro E
 induction E with
 | nil=>intro t d h;cases h
 | cons p E ih =>
  obtain⟨u,x⟩:=p
  intro t d h
  rcases X1g (r:=swE j k n E) h with⟨rfl,rfl⟩ | ⟨h1,h2⟩
  · exact⟨x,X0x ..,rfl⟩
  ·
   obtain⟨y,q1,q2⟩:=ih h2
   exact⟨y,by rw [X0q _ _ h1];exact q1,q2⟩
def isBox:Ob→Bool
 | .box _=>true
 | _=>false
def X4V (L:List Ob) (j:Nat):Bool:=match L[j]? with
 | some o=>!isBox o
 | none=>false
theorem SR.swap {g:Gh} {s:Env} {a:AH} (S:SR C ⟨E,L⟩ g s a) {j k:Nat} (hj:X4V L j=true) (hk:X4V L k=true):∃ g2,SR C ⟨swE j k L.length E,swL j k L⟩ g2 s a:=by
 have hlen:g.length=L.length:=S.len
 have jl:j<L.length:=by
  unfold X4V at hj;split at hj
  · rename_i o e;exact(List.getElem?_eq_some_iff.1 e).1
  · cases hj
 have kl:k<L.length:=by
  unfold X4V at hk;split at hk
  · rename_i o e;exact(List.getElem?_eq_some_iff.1 e).1
  · cases hk
 have hsw:∀ i,i<L.length→(if i=j then k else if i=k then j else i)<L.length:=fun i hi=>by
  split
  · exact kl
  ·
   split
   · exact jl
   · exact hi
 have inv:∀ i,(if (if i=j then k else if i=k then j else i)=j then k else if (if i=j then k else if i=k then j else i)=k then j else(if i=j then k else if i=k then j else i))=i:=by
  intro i
  by_cases h1:i=j
  ·
   subst h1;simp only [if_true];by_cases h2:k=i
   · subst h2;simp
   · simp [h2]
  ·
   by_cases h2:i=k
   · subst h2;simp [h1]
   · simp [h1,h2]
 obtain⟨g2,hg2⟩:∃ g2:Gh,g2=(swS j k L.length).map fun i=>(g[i]?).getD none:=⟨_,rfl⟩
 have gl:g2.length=L.length:=by rw [hg2];simp [swS]
 have g2at:∀ i,i<L.length→g2[i]?=g[(if i=j then k else if i=k then j else i)]?:=by
  intro i hi
  rw [hg2,List.getElem?_map,X8p hi]
  have:=hsw i hi
  rw [Option.map_some,List.getElem?_eq_getElem (by omega),Option.getD_some]
 have back:∀ (p:Nat) x,g[p]?=some x→g2[bk (swS j k L.length) L.length p]?=some x:=by
  intro p x e
  have hp:p<L.length:=by have:=(List.getElem?_eq_some_iff.1 e).1;omega
  unfold bk
  rw [X8p hp]
  simp only
  rw [g2at _ (hsw p hp),inv,e]
 have fromg:∀ (i:Nat) y,g2[i]?=some y→i<L.length∧g[(if i=j then k else if i=k then j else i)]?=some y:=by
  intro i y e
  have hi:i<L.length:=by have:=(List.getElem?_eq_some_iff.1 e).1;omega
  exact⟨hi,by rw [← g2at i hi];exact e⟩
 have cls:∀ c,c∈Gh.cls g2→c∈Gh.cls g:=fun c hc=>by
  obtain⟨i,b,e⟩:=Gh.mem_cls.1 hc
  obtain⟨_,e⟩:=fromg i _ e
  exact Gh.mem_cls.2 ⟨_,b,e⟩
 have mm:∀ c,c<a.next→MM C.M g2 c→MM C.M g c:=fun c _ m=>by
  rcases m with m | m
  · exact .inl m
  · exact .inr (cls c m)
 have Lat:∀ i,i<L.length→(swL j k L)[i]?=some (X6I (swS j k L.length) L.length ((L[(if i=j then k else if i=k then j else i)]?).getD .dead)):=by
  intro i hi
  unfold swL
  rw [List.getElem?_map,X8p hi];rfl
 have boxat:∀ (i:Nat) cs,(swL j k L)[i]?=some (.box cs)→i<L.length∧i≠j∧i≠k∧∃ cs0,L[i]?=some (.box cs0):=by
  intro i cs e
  have hi:i<L.length:=by have:=(List.getElem?_eq_some_iff.1 e).1;simpa[swL,swS]using this
  rw [Lat i hi]at e
  have nb:∀ m,m<L.length→X4V L m=true→X6I (swS j k L.length) L.length ((L[m]?).getD .dead)=.box cs→False:=by
   intro m hm h e
   unfold X4V at h
   rw [List.getElem?_eq_getElem hm]at h e
   rw [Option.getD_some]at e
   cases ho:L[m]with
   | box c0=>rw [ho]at h;cases h
   | row e1 n1 c1=>rw [ho]at e;cases e
   | dead=>rw [ho]at e;cases e
  by_cases h1:i=j
  · subst h1;rw [if_pos rfl]at e;exact(nb k kl hk (Option.some.inj e)).elim
  ·
   rw [if_neg h1]at e
   by_cases h2:i=k
   · subst h2;rw [if_pos rfl]at e;exact(nb j jl hj (Option.some.inj e)).elim
   ·
    rw [if_neg h2,List.getElem?_eq_getElem hi,Option.getD_some]at e
    refine⟨hi,h1,h2,?_⟩
    cases ho:L[i]with
    | box c0=>exact⟨c0,by rw [List.getElem?_eq_getElem hi,ho]⟩
    | row e1 n1 c1=>rw [ho]at e;cases e
    | dead=>rw [ho]at e;cases e
 refine⟨g2,S.ok,S.old,fun t d e=>?_,?_,?_,fun i x o e1 e2=>?_,?_,fun c hc=>S.nm c (cls c hc),S.kp,S.ok0,fun i b c cs e1 e2=>?_,fun i cs e1 e2=>?_⟩
 ·
  obtain⟨y,hy,rfl⟩:=XGn e
  exact DR.back mm back (S.env t y hy)
 · rw [gl];simp [swL,swS]
 · have:=S.pl;omega
 ·
  obtain⟨hi,e1⟩:=fromg i x e1
  have e2:(swL j k L)[i]?=some o:=e2
  rw [Lat i hi]at e2
  cases e2
  have:=hsw i hi
  have eL:L[(if i=j then k else if i=k then j else i)]?=some (L[(if i=j then k else if i=k then j else i)]'this):=List.getElem?_eq_getElem this
  rw [eL,Option.getD_some]
  exact ObR.back mm back (S.obj _ x _ e1 eL)
 ·
  refine Gh.nodup_of fun i i' b b' c e1 e2=>?_
  obtain⟨_,e1⟩:=fromg i _ e1
  obtain⟨_,e2⟩:=fromg i' _ e2
  have:=Gh.inj S.nd e1 e2
  have h1:=inv i
  rw [this,inv i']at h1
  exact h1.symm
 ·
  obtain⟨hi,h1,h2,cs0,h3⟩:=boxat i cs e2
  have:=S.pre i b c cs0 e1 h3
  rw [g2at i hi,if_neg h1,if_neg h2];exact this
 ·
  obtain⟨hi,h1,h2,cs0,h3⟩:=boxat i cs e2
  exact S.pk i cs0 e1 h3
theorem OD.swap (j k:Nat) (hj:X4V L j=true) (hk:X4V L k=true) (h:OD P ov C ops l ⟨swE j k L.length E,swL j k L⟩ q):OD P ov C ops l ⟨E,L⟩ q:=fun g s a S=>by
 obtain⟨g2,S2⟩:=S.swap hj hk
 exact h g2 s a S2
def X22:D→Bool
 | .int _ _=>true
 | .bool _=>true
 | .str _=>true
 | _=>false
def XGo:D→Bool
 | .agg ds=>ds.all X22
 | d=>X22 d
def XFd:D→Bool
 | .tup ds=>ds.all XGo
 | d=>X22 d
theorem X40 {M M':Nat→Prop} {g g':Gh} {a a':AH} {d:D} {v:Value} (hd:X22 d=true) (h:DL M g a d v):DL M' g' a' d v:=by
 cases d with
 | int k z=>cases h;exact CR.int
 | bool b=>cases h;exact CR.bool
 | str s=>cases h;exact CR.str
 | _=>cases hd
theorem X9o {M M':Nat→Prop} {g g':Gh} {a a':AH} {d:D} {v:Value} (hd:X22 d=true) (h:D1 M g a d v):D1 M' g' a' d v:=by
 cases d with
 | int k z=>cases h;exact CR.int
 | bool b=>cases h;exact CR.bool
 | str s=>cases h;exact CR.str
 | _=>cases hd
theorem XDb {M M':Nat→Prop} {g g':Gh} {a a':AH} {d:D} {v:Value} (hd:XGo d=true) (h:D1 M g a d v):D1 M' g' a' d v:=by
 cases d with
 | int k z=>cases h;exact CR.int
 | bool b=>cases h;exact CR.bool
 | str s=>cases h;exact CR.str
 | agg ds =>
  obtain⟨vs,h1,h2⟩:=h
  have hd:=List.all_eq_true.1 hd
  exact⟨vs,h1,h2.mono_mem fun x hx y r=>X40 (hd x hx) r⟩
 | _=>cases hd
theorem X6z {M M':Nat→Prop} {g g':Gh} {a a':AH} {d:D} {v:Value} (hd:XFd d=true) (h:DR M g a d v):DR M' g' a' d v:=by
 cases d with
 | int k z=>cases h;exact CR.int
 | bool b=>cases h;exact CR.bool
 | str s=>cases h;exact CR.str
 | tup ds =>
  obtain⟨vs,h1,h2⟩:=h
  have hd:=List.all_eq_true.1 hd
  exact⟨vs,h1,h2.mono_mem fun x hx y r=>XDb (hd x hx) r⟩
 | _=>cases hd
theorem SR.keep0 {g:Gh} {s:Env} {a a':AH} (S:SR C ⟨E,L⟩ g s a) (K:X1C (fun _=>False) a a') (ok':a'.ok):SR C ⟨E,L⟩ g s a':=by
 have hm:∀ k,k<a.next→MM C.M g k→MM C.M g k:=fun _ _ m=>m
 refine S.heap' K (fun _ f=>f.elim) ok' (Gh.On.refl _) S.len (fun k h=>.inl h) S.nd (fun i x o e1 e2=>?_) (fun i cs e=>.inr ⟨cs,e⟩)
 have O:=S.obj i x o e1 e2
 cases o with
 | box cs =>
  obtain⟨b,k,vs,rfl,p1,p2⟩:=O
  exact⟨b,k,vs,rfl,K.blk _ _ p1 (fun f=>f),p2.mono fun _ _ r=>DL.mono K (fun _ f=>f.elim) hm (Gh.On.refl _) r⟩
 | row e n cs =>
  obtain⟨hl,O⟩:=O
  refine⟨hl,?_⟩
  rcases O with O | ⟨b,k,vs,rfl,p1,p2⟩
  · exact .inl O
  · exact .inr ⟨b,k,vs,rfl,K.blk _ _ p1 (fun f=>f),p2.mono fun _ _ r=>r.mono K (fun _ f=>f.elim) hm⟩
 | dead=>exact O
theorem XEU {jb jr o n c e N:Nat} {d0 d1:D} {cells:List D} (hL:L[jb]?=some (.box [d0,d1,.row jr o n c])) (hR:L[jr]?=some (.row e N cells)) (h0:X22 d0=true) (h1:X22 d1=true) (hn:o+n*e≤cells.length) (hc:n≤c)
  {g:Gh} {s:Env} {a:AH} (S:SR C ⟨E,L⟩ g s a):∃ b k,g[jb]?=some (some (b,k))∧X9e (MM C.M []) a b [d0,d1,.sl e n ((cells.drop o).take (n*e))]:=by
 have hjl:=(List.getElem?_eq_some_iff.1 hL).1
 have hlen:g.length=L.length:=S.len
 have hg:g[jb]?=some g[jb]:=List.getElem?_eq_getElem (by omega)
 obtain⟨b,k,vs,e1,p1,p2⟩:=S.obj jb _ _ hg hL
 rw [e1]at hg
 have hk:k∈g.cls:=Gh.mem_cls.2 ⟨jb,b,hg⟩
 have no:∀ k,k∈g.cls→¬ MM C.M [] k:=fun k hk m=>by
  rcases m with m | m
  · exact(S.nm k hk).1 m
  · cases m
 have sub:∀ k,k<a.next→MM C.M [] k→MM C.M g k:=fun k _ m=>by
  rcases m with m | m
  · exact .inl m
  · cases m
 refine⟨b,k,hg,vs,k,p1,no k hk,(S.nm k hk).2.1,?_⟩
 cases p2 with
 | cons a0 t=>cases t with
  | cons a1 t=>cases t with
   | cons a2 t =>
    cases t
    refine .cons ((X40 h0 a0:DL (MM C.M []) [] a d0 _).cr (by cases d0<;>first | rfl | cases h0)) (.cons ((X40 h1 a1:DL (MM C.M []) [] a d1 _).cr (by cases d1<;>first | rfl | cases h1)) (.cons ?_ .nil))
    rcases a2 with⟨g1,rfl,rfl,rfl⟩ | ⟨b',k',g1,rfl⟩
    · rw [Nat.zero_mul,List.take_zero];exact .nil
    ·
     obtain⟨hl,⟨e2,_⟩ | ⟨b2,k2,ws,e2,r2,r3⟩⟩:=S.obj jr _ _ g1 hR
     · cases e2
     cases e2
     have hk':k'∈g.cls:=Gh.mem_cls.2 ⟨jr,b',g1⟩
     refine X4U.cr ⟨⟨ws,k',true,e⟩,r2,no k' hk',(S.nm k' hk').2.1,rfl,by rw [List.length_take,List.length_drop];omega,by rw [← r3.length];exact hn,fun i d hd=>?_⟩ hc
     rw [List.getElem?_take]at hd
     split at hd
     case isFalse=>cases hd
     rw [List.getElem?_drop]at hd
     obtain⟨v,s1,s2⟩:=r3.get _ _ hd
     exact⟨v,s1,s2.mono (X1C.refl (fun _=>False) a) (fun _ f=>f.elim) sub⟩
theorem OD.callFz {jb jr o n c e N:Nat} {d0 d1:D} {cells rest:List D} {x:Operand} {args:Array Operand} {ats:Array TypeId} {f:FuncId} {R:D→Prop}
  (hf:FnD P ov f (.bx [d0,d1,.sl e n ((cells.drop o).take (n*e))] 0::rest) [] fun r L'=>R r∧L'=[]) (hx:zd E x=some (.fn f)) (hl:zdL E args.toList=some (.loc jb 0::rest))
  (hL:L[jb]?=some (.box [d0,d1,.row jr o n c])) (hR:L[jr]?=some (.row e N cells)) (h0:X22 d0=true) (h1:X22 d1=true) (hrest:rest.all X22=true) (hn:o+n*e≤cells.length) (hc:n≤c) (hb:X1z P f=true)
  (hfl:∀ r,R r→XFd r=true) (h:∀ r,R r→OD P ov C ops l ⟨pt C.nt E dst r,L⟩ q):OD P ov C ops (⟨dst,.call ⟨.value x,args,ats⟩,ty,pos_,after,none⟩::l) ⟨E,L⟩ q:=by
 intro g s a S
 obtain⟨b,k,hg,hbx⟩:=XEU hL hR h0 h1 hn hc S
 obtain⟨v,q1,q2⟩:=X0C S hx
 cases q2
 obtain⟨vs,q3,q4⟩:=X9j S hl
 have hargs:F2 (D1 (MM C.M []) [] a) (.bx [d0,d1,.sl e n ((cells.drop o).take (n*e))] 0::rest) vs:=by
  cases q4 with
  | cons a0 t =>
   obtain⟨b',k',e1,rfl⟩:=a0
   rw [hg]at e1;cases e1
   have hr:=List.all_eq_true.1 hrest
   exact .cons ⟨b,rfl,hbx⟩ (t.mono_mem fun x hx y r=>X9o (hr x hx) r)
 have F:=hf C.M [] a vs S.ok (fun k m=>S.mmlt (.inl m)) rfl .nil (fun k hk=>by cases hk) (fun i x o e _=>by cases e) hargs
 refine X31.cons S.kp (fun _ _=>rfl) (X4e.call rfl q1 q3 hb (fi:=#[]) (ca:=#[]) ?_)
 simp only [List.nil_append,List.append_nil]
 refine F.mono fun u a' hu=>?_
 obtain⟨r,L',g',r1,r2,r3,r4,r5,r6,r7,r8,r9,r10,rR,rfl⟩:=hu
 have K:X1C (fun _=>False) a a':=r7.weak fun k hk=>by cases hk
 exact h r rR g _ a' ((S.keep0 K r8).put (X6z (hfl r rR) r1) dst)
def lb1 (jb b:Nat):D→D
 | .loc i o=>bif Nat.beq i jb then X0s b o else .any
 | .int k z=>.int k z
 | .bool v=>.bool v
 | .str s=>.str s
 | _=>.any
def lbE (jb b:Nat) (E:X0m):X0m:=E.map fun p=>(p.1,lb1 jb b p.2)
theorem XEV {M M':Nat→Prop} {g:Gh} {a:AH} {jb b k:Nat} {d:D} {v:Value} (hg:g[jb]?=some (some (b,k))) (h:DR M g a d v):DR M' [] a (lb1 jb b d) v:=by
 cases d with
 | loc i o =>
  simp only [lb1]
  cases hb:Nat.beq i jb with
  | false=>trivial
  | true =>
   have:=Nat.eq_of_beq_eq_true hb
   subst this
   obtain⟨b',k',e1,rfl⟩:=h
   rw [hg]at e1;cases e1
   exact CR.lit rfl
 | int k z=>cases h;exact CR.int
 | bool v=>cases h;exact CR.bool
 | str s=>cases h;exact CR.str
 | _=>trivial
theorem X8q {f:D→D}:∀ {E:X0m} {t:Nat} {d:D},lk (E.map fun p=>(p.1,f p.2)) t=some d→∃ x,lk E t=some x∧d=f x:=by
 intro E
 induction E with
 | nil=>intro t d h;cases h
 | cons p E ih =>
  obtain⟨u,x⟩:=p
  intro t d h
  have h:lk ((u,f x)::E.map fun p=>(p.1,f p.2)) t=some d:=h
  rcases X1g h with⟨rfl,rfl⟩ | ⟨h1,h2⟩
  · exact⟨x,X0x ..,rfl⟩
  ·
   obtain⟨y,q1,q2⟩:=ih h2
   exact⟨y,by rw [X0q _ _ h1];exact q1,q2⟩
def FrzB (P:Program) (ops:Array Oper) (b:Nat) (cs:List D) (E:X0m):List Nat→Prop
 | []=>True
 | i::l=>(∃ t x o d,XF3 ops i=some (t,x)∧lk E x=some (X0s b o)∧X4g P t cs o=some d)∧FrzB P ops b cs E l
theorem XBj {nt:Nat} {M1:Nat→Prop} {a1:AH} {bx:Nat→Prop} {b:Nat} {cs:List D} {σ:SD} {g:Gh} {s:Env} {a:AH} (h:X9e (MM M1 []) a1 b cs) (S:SR ⟨nt,M1,a1,[],bx⟩ σ g s a):∀ {fz:List Nat},FrzB P ops b cs σ.E fz→Frz P ops (fun a'=>X1C (·∈Gh.cls []) a1 a') fz s:=by
 intro fz
 induction fz with
 | nil=>intro _ y hy;cases hy
 | cons y l ih =>
  intro hf z hz t x eq
  obtain⟨⟨t',x',o,d,f1,f2,f3⟩,f4⟩:=hf
  rcases List.mem_cons.1 hz with rfl | hz
  ·
   rw [f1]at eq;cases eq
   right
   have hv:=X1i (S.env _ _ f2)
   obtain⟨vs,k,h1,h2,h3,h4⟩:=h.ex
   obtain⟨v,r1,r2⟩:=X1h (g:=[]) f3 h1 (h4.mono fun _ _ r=>r.dl)
   refine⟨v,fun a' K=>?_⟩
   rw [hv,← r1]
   have hb':=K.blk _ _ h1 (fun hm=>by cases hm)
   unfold X3t AH.rd AH.rdL
   simp only [h1,hb']
  · exact ih f4 z hz t x eq
theorem OD.ldB {nt:Nat} {M1:Nat→Prop} {a1:AH} {bx:Nat→Prop} {b o:Nat} {cs:List D} {t:TypeId} {x:Operand} {d:D} (hk:X9e (MM M1 []) a1 b cs) (hx:zd E x=some (X0s b o)) (hd:X4g P t cs o=some d) (hfl:X22 d=true)
  (h:OD P ov ⟨nt,M1,a1,[],bx⟩ ops l ⟨pt nt E dst d,L⟩ q):OD P ov ⟨nt,M1,a1,[],bx⟩ ops (⟨dst,.load t x,ty,pos_,after,none⟩::l) ⟨E,L⟩ q:=by
 refine OD.plain (fun g s a S=>?_) h
 obtain⟨vx,q1,q2⟩:=X0C S hx
 have q2:=X1i q2
 subst q2
 obtain⟨vs,k,h1,h2,h3,h4⟩:=hk.ex
 have h1':=S.kp.blk _ _ h1 (fun hm=>by cases hm)
 obtain⟨v,r1,r2⟩:=X1h (M:=MM M1 []) (g:=[]) (a:=a1) hd h1 (h4.mono fun _ _ r=>r.dl)
 refine⟨v,?_,X6z (by cases d<;>first | exact hfl | cases hfl) r2⟩
 simp only [X0P,q1]
 refine X0E ?_
 rw [← r1]
 unfold X3t AH.rd AH.rdL
 simp only [h1,h1']
theorem OD.litBx {nt:Nat} {M1:Nat→Prop} {a1:AH} {bx:Nat→Prop} {b o:Nat} {cs:List D} (t:Nat) (hk:X9e (MM M1 []) a1 b cs) (hl:lk E t=some (X0s b o)) (hL:L=[])
  (h:OD P ov ⟨nt,M1,a1,[],bx⟩ ops l ⟨setv t (.bx cs o) E,L⟩ q):OD P ov ⟨nt,M1,a1,[],bx⟩ ops l ⟨E,L⟩ q:=by
 subst hL
 intro g s a S
 have hg:g=[]:=List.eq_nil_of_length_eq_zero S.len
 subst hg
 have hv:=X1i (S.env _ _ hl)
 refine h [] s a ⟨S.ok,S.old,fun u d e=>?_,S.len,S.pl,S.obj,S.nd,S.nm,S.kp,S.ok0,S.pre,S.pk⟩
 have e:lk (setv t (.bx cs o) E) u=some d:=e
 rcases X6u e with⟨rfl,rfl,_⟩ | ⟨_,h2⟩
 · exact⟨b,hv,hk.mono S.kp (fun k hk=>by cases hk) (fun _ _ m=>m)⟩
 · exact S.env u d h2
def fl1:D→D
 | .int k z=>.int k z
 | .bool v=>.bool v
 | .str s=>.str s
 | _=>.any
def flE (E:X0m):X0m:=E.map fun p=>(p.1,fl1 p.2)
theorem XGp {M M':Nat→Prop} {g g':Gh} {a a':AH} {d:D} {v:Value} (h:DR M g a d v):DR M' g' a' (fl1 d) v:=by
 cases d with
 | int k z=>cases h;exact CR.int
 | bool v=>cases h;exact CR.bool
 | str s=>cases h;exact CR.str
 | _=>trivial
theorem XGq {j b:Nat} {E E':X0m}:∀ {bk:List (Nat×Nat)} {t:Nat} {d:D},BkD b E bk→lk (bkE j bk E') t=some d→(∃ o,lk E t=some (X0s b o)∧d=.loc j o)∨lk E' t=some d:=by
 intro bk
 induction bk with
 | nil=>intro t d _ h;exact .inr h
 | cons p bk ih =>
  obtain⟨u,o⟩:=p
  intro t d hb h
  have h:lk (setv u (.loc j o) (bkE j bk E')) t=some d:=h
  rcases X6u h with⟨rfl,rfl,_⟩ | ⟨_,h2⟩
  · exact .inl ⟨o,hb.1,rfl⟩
  · exact ih hb.2 h2
theorem CD.drawnB (fz:List Nat) (bk:List (Nat×Nat)) {jb jr o n c e N:Nat} {d0 d1:D} {cells:List D} {id:Nat} {Q:X4E} (hL:L[jb]?=some (.box [d0,d1,.row jr o n c])) (hR:L[jr]?=some (.row e N cells)) (h0:X22 d0=true) (h1:X22 d1=true) (hn:o+n*e≤cells.length) (hc:n≤c) (ht:X9a fz C.nt ops=true)
  (h:∀ (M1:Nat→Prop) (a1:AH) (bx1:Nat→Prop) (b:Nat),X9e (MM M1 []) a1 b [d0,d1,.sl e n ((cells.drop o).take (n*e))]→OD P ov ⟨C.nt,M1,a1,[],bx1⟩ ops ops.toList ⟨lbE jb b E,[]⟩ fun σ' =>
   X6x (X4C ops) σ'.E=true∧FrzB P ops b [d0,d1,.sl e n ((cells.drop o).take (n*e))] σ'.E fz∧BkD b σ'.E bk∧σ'.L=[]∧Q.n ⟨bkE jb bk (flE σ'.E),L⟩):CD P ov C (.region id ops true) ⟨E,L⟩ Q:=by
 intro g s a S
 obtain⟨b,k,hg,hbx⟩:=XEU hL hR h0 h1 hn hc S
 have S1:SR ⟨C.nt,C.M,a,[],fun _=>False⟩ ⟨lbE jb b E,[]⟩ [] s a:=by
  refine⟨S.ok,fun k m=>S.mmlt (.inl m),fun t d e=>?_,rfl,Nat.le_refl _,(fun i x o e _=>by cases e),.nil,(fun k hk=>by cases hk),X1C.refl _ _,S.ok,(fun i b k cs e _=>by cases e),(fun i cs e _=>by cases e)⟩
  obtain⟨x,hx,rfl⟩:=X8q e
  exact XEV hg (S.env t x hx)
 refine Cx.drawn ht ((h C.M a (fun _=>False) b hbx _ s a S1).mono fun s' a' k'=>?_)
 obtain⟨σ',g',S',k1,k2,kb,k3,k4⟩:=k'
 obtain⟨E',L'⟩:=σ'
 have k3:L'=[]:=k3
 subst k3
 have hg':g'=[]:=List.eq_nil_of_length_eq_zero S'.len
 subst hg'
 have K:X1C (fun _=>False) a a':=S'.kp.weak fun k hk=>by cases hk
 refine⟨fun d hd=>?_,XBj hbx S' k2,⟨bkE jb bk (flE E'),L⟩,g,?_,k4⟩
 ·
  have:=List.all_eq_true.1 k1 d hd
  split at this
  · rename_i x hx;exact X9m (S'.env d x hx) this
  · cases this
 ·
  have S2:=S.keep0 K S'.ok
  refine⟨S2.ok,S2.old,fun t d e=>?_,S2.len,S2.pl,S2.obj,S2.nd,S2.nm,S2.kp,S2.ok0,S2.pre,S2.pk⟩
  rcases XGq kb e with⟨o',h1,rfl⟩ | h2
  · exact⟨b,k,hg,X1i (S'.env t _ h1)⟩
  ·
   obtain⟨x,hx,rfl⟩:=X8q h2
   exact XGp (S'.env t x hx)
theorem OD.appFR {args:Array Operand} {ats:Array TypeId} {x y:Operand} {j e n m k0 o0 c0 N0:Nat} {cs ds cs0:List D} (ha:args.toList=[x,y]) (ht:Go.Vai.X8m P ats=some e) (hx:zd E x=some (.row j 0 n n)) (hL:L[j]?=some (.row e n cs)) (hy:zd E y=some (.row k0 o0 m c0)) (hK:L[k0]?=some (.row e N0 cs0)) (hb:o0+m*e≤cs0.length) (hd:(cs0.drop o0).take (m*e)=ds)
  (hl:cs.length=n*e) (h0:0<n) (h1:(n+m)*e≤100000000) (h2:n+m≤100000000)
  (h:OD P ov C ops l ⟨pt C.nt (X3a j E) dst (.row j 0 (m+n) (m+n)),X37 j (L.set j (.row e (m+n) (cs++ds)))⟩ q):OD P ov C ops (⟨dst,.call ⟨.builtin .append,args,ats⟩,ty,pos_,after,none⟩::l) ⟨E,L⟩ q:=by
 by_cases hm:m=0
 ·
  subst hm
  have hds:ds=[]:=by rw [← hd];simp
  subst hds
  refine OD.appIR ha ht hx hL hy hK hb hd (Nat.le_refl _) (Nat.le_refl _) h0 h1 h2 ?_
  rw [Nat.zero_add]at h
  rw [Nat.add_zero,List.append_nil,List.take_append_drop]
  rw [List.append_nil]at h
  exact h
 ·
  refine OD.appGR ha ht hx hL hy hK hb hd (Nat.le_refl _) (by omega) h1 h2 ?_
  rw [Nat.add_comm n m,← hl,List.take_length]
  exact h
theorem OD.nckL {x:Operand} {b o:Nat} (hx:zd E x=some (X0s b o)) (h:OD P ov C ops l ⟨pt C.nt E dst (X0s b o),L⟩ q):OD P ov C ops (⟨dst,.nilCheck x,ty,pos_,after,none⟩::l) ⟨E,L⟩ q:=by
 refine OD.plain (fun g s a S=>?_) h
 obtain⟨v,q1,q2⟩:=X0C S hx
 have q2:=X1i q2
 subst q2
 exact⟨_,by simp only [X0P,q1],CR.lit rfl⟩
theorem OD.slRc {t:TypeId} {x:Operand} {lo hi:Option Operand} {j o n c e n' lw u:Nat} {cs:List D} (hx:zd E x=some (.row j o n c)) (hL:L[j]?=some (.row e n' cs)) (ht:X2s P t=some e)
  (hlo:(lo=none∧lw=0)∨∃ o k,lo=some o∧zd E o=some (.int k (lw:Int))) (hhi:(hi=none∧u=n)∨∃ o k,hi=some o∧zd E o=some (.int k (u:Int))) (h1:lw≤u) (h2:u≤c) (h3:0<c)
  (h:OD P ov C ops l ⟨pt C.nt E dst (.row j (o+lw*e) (u - lw) (c - lw)),L⟩ q):OD P ov C ops (⟨dst,.slice t x lo hi none,ty,pos_,after,none⟩::l) ⟨E,L⟩ q:=by
 refine OD.plain (fun g s a S=>?_) h
 obtain⟨elem,hu,hs⟩:=X2W ht
 obtain⟨vx,q1,q2⟩:=X0C S hx
 have hlo':∃ ol,X4d s lo=some ol∧X0j ol 0=some lw:=by
  rcases hlo with⟨rfl,rfl⟩ | ⟨o,k,rfl,ho⟩
  · exact⟨none,rfl,rfl⟩
  ·
   obtain⟨v,r1,r2⟩:=X0C S ho
   cases r2
   exact⟨some (.int k (lw:Int)),by simp only [X4d,r1],by simp [X0j]⟩
 have hhi':∃ oh,X4d s hi=some oh∧X0j oh n=some u:=by
  rcases hhi with⟨rfl,rfl⟩ | ⟨o,k,rfl,ho⟩
  · exact⟨none,rfl,rfl⟩
  ·
   obtain⟨v,r1,r2⟩:=X0C S ho
   cases r2
   exact⟨some (.int k (u:Int)),by simp only [X4d,r1],by simp [X0j]⟩
 obtain⟨ol,l1,l2⟩:=hlo'
 obtain⟨oh,u1,u2⟩:=hhi'
 rcases q2 with⟨_,_,hc,_⟩ | ⟨b,k,hg,rfl⟩
 · omega
 obtain⟨_,⟨e1,_⟩ | ⟨b',k',vs,e1,r2,r3⟩⟩:=S.obj j _ _ hg hL
 · cases e1
 cases e1
 refine⟨.slice (some ⟨b,o+lw*e,none⟩) (u - lw) (c - lw),?_,.inr ⟨b,k,hg,rfl⟩⟩
 simp only [X0P,q1,l1,u1]
 refine X0E ?_
 have c1:Nat.ble lw u=true:=by simpa using h1
 have c2:Nat.ble u c=true:=by simpa using h2
 simp only [X33,hu,hs,l2,u2,r2,c1,c2,Nat.beq_refl,Bool.and_self]
end
end Go.Vai
namespace Go.Vai
noncomputable section
variable {P:Program} {ov:Ov} {C:Cx0}
variable {ops:Array Oper} {dst:Option Nat} {ty:TypeId} {pos_:String} {after:Array Edge} {l:List Oper} {E:X0m} {L:List Ob} {q:SD→Prop}
end
end Go.Vai

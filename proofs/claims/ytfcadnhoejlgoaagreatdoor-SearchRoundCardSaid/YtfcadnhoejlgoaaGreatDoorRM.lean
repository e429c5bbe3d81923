/-
  What is proved here: data told in words that say less; bits of integers; a row that grows by data of any length (part RM  a sign turned into a text; calls of what the model gives by itself (part RN of the layer for plain d remainders of any integers, texts laid end to end (part RQ of the layer for plain data). a row that a call is given, told by its place; loads of its cells that are not ordered with calls; s No conditions but those that the theorems state.
-/
import Derived.Test.YtfcadnhoejlgoaaGreatDoorRJ
set_option linter.unusedVariables false
set_option linter.unusedSimpArgs false
namespace Go.Vai
noncomputable section
variable {P:Program} {ov:Ov} {C:Cx0} {ops:Array Oper} {dst:Option Nat} {ty:TypeId} {pos:String} {after:Array Edge} {l:List Oper} {E:X1F} {L:List Ob} {q:SD→Prop}
theorem OD.imp (t:Nat) {d d':D} (hl:lk E t=some d) (k:∀ M g a v,DR M g a d v→DR M g a d' v) (h:OD P ov C ops l ⟨setv t d' E,L⟩ q):OD P ov C ops l ⟨E,L⟩ q :=
 fun g s a S=>h g s a (S.setv (k _ _ _ _ (S.env t d hl)))
def XF1:Nat→D→D
 | 0,d=>d
 | e+1,.lit (.slice none 0 0)=>.sl (e+1) 0 []
 | _,d=>d
def reNil:List Nat→List D→List D
 | e::es,d::ds=>XF1 e d::reNil es ds
 | _,ds=>ds
theorem XF2 {M:Nat→Prop} {g:Gh} {a:AH} {e:Nat} {d:D} {v:Value} (h:DL M g a d v):DL M g a (XF1 e d) v:=by
 unfold XF1
 split
 · exact h
 · cases h;exact CR.nil
 · exact h
theorem XHO {M:Nat→Prop} {g:Gh} {a:AH}:∀ {es:List Nat} {ds:List D} {vs:List Value},F2 (DL M g a) ds vs→F2 (DL M g a) (reNil es ds) vs:=by
 intro es
 induction es with
 | nil=>intro ds vs h;cases ds<;>exact h
 | cons e es ih =>
  intro ds vs h
  cases h with
  | nil=>exact .nil
  | cons h t=>exact .cons (XF2 h) (ih t)
theorem OD.reNil (t:Nat) (es:List Nat) {ds ds':List D} (hl:lk E t=some (.agg ds)) (e:Go.Vai.reNil es ds=ds') (h:OD P ov C ops l ⟨setv t (.agg ds') E,L⟩ q):OD P ov C ops l ⟨E,L⟩ q :=
 OD.imp (d:=.agg ds) (d':=.agg ds') t hl (fun M g a v (hh:DR M g a (.agg ds) v)=>by obtain⟨vs,h1,h2⟩:=hh;exact⟨vs,h1,e ▸ XHO h2⟩) h
theorem OD.bit {op:BinOp} {t:TypeId} {x y:Operand} {c:TypeId} {k k':IntKind} {a b z:Int} (hx:zd E x=some (.int k a)) (hy:zd E y=some (.int k' b)) (hq:X9m op (.int k a) (.int k' b)=some (.int k z))
  (h:OD P ov C ops l ⟨pt C.nt E dst (.int k z),L⟩ q):OD P ov C ops (⟨dst,.binOp op t x y c,ty,pos,after,none⟩::l) ⟨E,L⟩ q:=by
 refine OD.plain (fun g s' a S=>?_) h
 obtain⟨vx,q1,q2⟩:=X0M S hx
 obtain⟨vy,p1,p2⟩:=X0M S hy
 cases q2;cases p2
 refine⟨_,?_,CR.int⟩
 simp only [X0c,q1,p1]
 refine X0I ?_
 unfold X33;rw [hq]
theorem X6b {k:IntKind} {m:Nat} (h:m<kHi k):X09 k (.ofNat m)=(m:Int):=by
 unfold X09
 have:Nat.blt m (kHi k)=true:=by simpa using h
 simp only [this,Int.ofNat_eq_natCast]
theorem XKW {m n b:Nat} (h:m<b):m &&& n<b:=Nat.lt_of_le_of_lt Nat.and_le_left h
theorem XHP {k:IntKind} {m n:Nat} (h:m<kHi k) (h2:n<kHi k):X9m .and (.int k (m:Int)) (.int k (n:Int))=some (.int k ((m &&& n:Nat):Int)):=by
 have hk:kEq k k=true:=by cases k<;>rfl
 have e1:Nat.blt m (kHi k)=true:=by simpa using h
 have e2:Nat.blt n (kHi k)=true:=by simpa using h2
 show(match kEq k k with | true=>XD8 .and k (Int.ofNat m) (Int.ofNat n) | false=>none)=_
 rw [hk]
 simp only [XD8,XKf,e1,e2,Bool.and_self]
 rw [X6b (by exact XKW h)];rfl
theorem q_or {k:IntKind} {m n:Nat} (h:m<kHi k) (h2:n<kHi k) (h3:m ||| n<kHi k):X9m .or (.int k (m:Int)) (.int k (n:Int))=some (.int k ((m ||| n:Nat):Int)):=by
 have hk:kEq k k=true:=by cases k<;>rfl
 have e1:Nat.blt m (kHi k)=true:=by simpa using h
 have e2:Nat.blt n (kHi k)=true:=by simpa using h2
 show(match kEq k k with | true=>XD8 .or k (Int.ofNat m) (Int.ofNat n) | false=>none)=_
 rw [hk]
 simp only [XD8,XKf,e1,e2,Bool.and_self]
 rw [X6b (by exact h3)];rfl
theorem q_shl {k k':IntKind} {m n:Nat} (h2:n≤k.bits) (h3:m*2 ^ n<kHi k):X9m .shl (.int k (m:Int)) (.int k' (n:Int))=some (.int k ((m*2 ^ n:Nat):Int)):=by
 have e1:Nat.ble n k.bits=true:=by simpa using h2
 show qsh .shl k (Int.ofNat m) (Int.ofNat n)=_
 simp only [qsh,e1]
 rw [X6b (by exact h3)];rfl
theorem and63 (m:Nat):m &&& 63=m % 64:=Nat.and_two_pow_sub_one_eq_mod m 6
theorem and31 (m:Nat):m &&& 31=m % 32:=Nat.and_two_pow_sub_one_eq_mod m 5
theorem and15 (m:Nat):m &&& 15=m % 16:=Nat.and_two_pow_sub_one_eq_mod m 4
theorem and7 (m:Nat):m &&& 7=m % 8:=Nat.and_two_pow_sub_one_eq_mod m 3
theorem or64 {a b:Nat} (h:b<64):a*2 ^ 6 ||| b=a*64+b:=by
 have:=Nat.shiftLeft_add_eq_or_of_lt (i:=6) (b:=b) (by omega) a
 rw [Nat.shiftLeft_eq]at this
 rw [← this]
theorem OD.appN {args:Array Operand} {ats:Array TypeId} {x y:Operand} {j e:Nat} {cs:List D} (ha:args.toList=[x,y]) (ht:Go.Vai.appT P ats=some e) (hx:zd E x=some (.row j 0 0 0)) (hL:L[j]?=some (.row e 0 cs)) (hy:zd E y=some (.sl e 0 []))
  (h:OD P ov C ops l ⟨pt C.nt (X2d j E) dst (.row j 0 0 0),X21 j (L.set j (.row e 0 cs))⟩ q):OD P ov C ops (⟨dst,.call ⟨.builtin .append,args,ats⟩,ty,pos,after,none⟩::l) ⟨E,L⟩ q:=by
 refine OD.heap (fun g s a S=>?_) h
 obtain⟨vx,q1,q2⟩:=X0M S hx
 obtain⟨vy,p1,p2⟩:=X0M S hy
 obtain⟨new,x1,x2,x3⟩:=X5w (g:=g) p2
 cases x2
 have hjL:=(List.getElem?_eq_some_iff.1 hL).1
 have hj:j<g.length:=by have:g.length=L.length:=S.len;omega
 have hg:g[j]?=some g[j]:=List.getElem?_eq_getElem hj
 have O0:=S.obj j _ _ hg hL
 obtain⟨hlen,O⟩:=O0
 rcases q2 with⟨e1,_,_,rfl⟩ | ⟨b,k,e1,rfl⟩
 ·
  have hz:X0t a (.slice none 0 0) e 0 0 0 []=some (.slice none 0 0,a):=rfl
  obtain⟨r1,r2⟩:=X4N ht rfl x1 (by simp) (by omega) (by omega) hz
  have hset:g.set j none=g:=by
   refine List.ext_getElem? fun i=>?_
   by_cases hi:i=j
   · subst hi;rw [List.getElem?_set_self hj,e1]
   · rw [List.getElem?_set_ne (fun q=>hi q.symm)]
  refine⟨.slice none 0 0,a,g,?_,?_,.inl ⟨e1,rfl,rfl,rfl⟩⟩
  · simp only [X0c,ha,X5X,q1,p1];exact r1
  ·
   have:=S.relay (j:=j) (x':=none) (o':=.row e 0 cs) (X1d.refl (fun _=>False) a) (fun _ f=>f.elim) S.ok hj (fun b k e=>by cases e) ⟨hlen,.inl ⟨rfl,rfl⟩⟩ (fun cs e=>by cases e)
   rw [hset]at this
   exact this
 rcases O with⟨o1,_⟩ | ⟨b',k',vs,o1,o2,o3⟩
 · rw [hg,o1]at e1;cases e1
 rw [hg,o1]at e1;cases e1
 have hz:X0t a (.slice (some ⟨b,0,none⟩) 0 0) e 0 0 0 []=some (.slice (some ⟨b,0,none⟩) 0 0,{ a with blk:=X1R a.blk b ⟨over vs 0 [],k,true,e⟩ none }):=by
  simp only [X0t,show Nat.ble (0+0) 0=true from rfl,o2,Nat.beq_refl,Nat.zero_add,Nat.zero_mul,AH.wrL,List.length_nil,Nat.zero_le,and_self,if_true]
 obtain⟨r1,r2⟩:=X4N ht rfl x1 (by simp) (by omega) (by omega) hz
 have K:=X2v (B':=⟨over vs 0 [],k,true,e⟩) o2 rfl
 have hk:k∈g.cls:=Gh.mem_cls.2 ⟨j,b,by rw [hg,o1]⟩
 have hset:g.set j (some (b,k))=g:=by
  refine List.ext_getElem? fun i=>?_
  by_cases hi:i=j
  · subst hi;rw [List.getElem?_set_self hj,hg,o1]
  · rw [List.getElem?_set_ne (fun q=>hi q.symm)]
 refine⟨.slice (some ⟨b,0,none⟩) 0 0,{ a with blk:=X1R a.blk b ⟨over vs 0 [],k,true,e⟩ none },g,?_,?_,.inr ⟨b,k,by rw [hg,o1],rfl⟩⟩
 · simp only [X0c,ha,X5X,q1,p1];exact r1
 ·
  have:=S.relay (j:=j) (x':=some (b,k)) (o':=.row e 0 cs) K (fun x w=>⟨b,by have w:x=k:=w;subst w;rw [hg,o1]⟩) (X8R S.ok o2 rfl) hj (fun b' k' e=>by cases e;exact .inl ⟨b,by rw [hg,o1]⟩)
   (by
    rw [hset]
    refine⟨hlen,.inr ⟨b,k,_,rfl,X3u,?_⟩⟩
    have R:F2 (CR (MM C.M g) a) cs (over vs 0 []):=by
     have:over vs 0 []=vs:=by simp [over]
     rw [this];exact o3
    refine R.mono fun d v r=>r.mono K (fun x w=>?_) (fun _ _ m=>m)
    have w:x=k:=w
    subst w;exact .inr hk)
   (fun cs e=>by cases e)
  rw [hset]at this
  exact this
theorem OD.appV' {α:Type} {f:α→D} {args:Array Operand} {ats:Array TypeId} {x y:Operand} {j n m:Nat} {xs vs:List α} {ds:List D} (ha:args.toList=[x,y]) (ht:Go.Vai.appT P ats=some 1) (hx:zd E x=some (.row j 0 n n)) (hL:L[j]?=some (.row 1 n (xs.map f))) (hy:zd E y=some (.sl 1 m ds)) (hv:ds=vs.map f) (hm:vs.length=m)
  (hl:xs.length=n) (h2:n+m≤100000000)
  (h:OD P ov C ops l ⟨pt C.nt (X2d j E) dst (.row j 0 (n+m) (n+m)),X21 j (L.set j (.row 1 (n+m) ((xs++vs).map f)))⟩ q):OD P ov C ops (⟨dst,.call ⟨.builtin .append,args,ats⟩,ty,pos,after,none⟩::l) ⟨E,L⟩ q:=by
 rcases Nat.eq_zero_or_pos m with h0 | h0
 ·
  subst h0
  have:vs=[]:=List.length_eq_zero_iff.1 hm
  subst this;subst hv
  rw [List.append_nil]at h
  rcases Nat.eq_zero_or_pos n with h1 | h1
  · subst h1;exact OD.appN ha ht hx hL hy h
  ·
   refine OD.appI ha ht hx hL hy (Nat.le_refl _) (Nat.le_refl _) h1 (by omega) (by omega) ?_
   rw [List.take_of_length_le (by simp;omega),List.map_nil,List.append_nil,List.drop_eq_nil_of_le (by simp;omega),List.append_nil]
   exact h
 · exact OD.appV ha ht hx hL hy hv hl h0 h2 h
end
end Go.Vai
namespace Go.Vai
noncomputable section
variable {P:Program} {ov:Ov} {C:Cx0} {ops:Array Oper} {dst:Option Nat} {ty:TypeId} {pos:String} {after:Array Edge} {l:List Oper} {E:X1F} {L:List Ob} {q:SD→Prop}
def XIN (P:Program) (t:TypeId):Bool:=match P.underlying t with
 | some (.int .i32)=>true
 | _=>false
theorem XKX {src dst:TypeId} {r:Int} (hs:P.underlying src=some (.int .i32)) (hd:P.underlying dst=some .string):X60 P (convert src dst (.int .i32 r))=some (.string (Utf8.encode r)):=by
 unfold convert
 rw [X0w (X2y hs)]
 rw [X0w (X2y hd)]
 rfl
theorem OD.convRS {src dst':TypeId} {x:Operand} {r:Int} (hx:zd E x=some (.int .i32 r)) (hs:XIN P src=true) (hd:X9a P dst'=true)
  (h:OD P ov C ops l ⟨pt C.nt E dst (.str (Utf8.encode r)),L⟩ q):OD P ov C ops (⟨dst,.convert src dst' x,ty,pos,after,none⟩::l) ⟨E,L⟩ q:=by
 refine OD.plain (fun g s a S=>?_) h
 obtain⟨vx,q1,q2⟩:=X0M S hx
 cases q2
 have hd':=X6a hd
 have hs':P.underlying src=some (.int .i32):=by
  unfold XIN at hs;split at hs
  · assumption
  · cases hs
 refine⟨.string (Utf8.encode r),?_,CR.str⟩
 have hq:XAv P src dst' (.int .i32 r)=none:=by simp only [XAv,hs',hd']
 simp only [X0c,q1,X4h,hq,X04,X06,X1a,XKX hs' hd']
def extB (P:Program) (g:FuncId):Bool:=match P.funcs[g]? with
 | some fn=>match fn.name == "runtime.NumGoroutine" with
  | true=>false
  | false=>fn.body.isNone
 | none=>false
theorem X5F.ext {o:Oper} {x:Operand} {args:Array Operand} {ats:Array TypeId} (ho:o.op=.call ⟨.value x,args,ats⟩) {s:Env} {a:AH} {g:FuncId} {l:List Value} {v:Value}
  (hx:zev s x=some (.func (.func g) #[] #[])) (hl:X5X s args.toList=some l) (hb:extB P g=true) (hp:l.all X04=true) (he:X60 P (callFunc g l.toArray)=some (.value v)) (hv:X04 v=true) {Q:Value→AH→Prop} (q:Q v a):X5F P ov o s a Q:=by
 intro tm h hs A
 refine⟨v,h,a,⟨0,fun k _=>?_⟩,A,q⟩
 unfold X08
 rw [ho]
 simp only [X0u hs h hx,X3E hs h hl]
 unfold extB at hb
 split at hb
 case h_2=>cases hb
 rename_i fn hfn
 rw [hfn];simp only
 split at hb
 · cases hb
 ·
  rename_i hn
  rw [hn];simp only
  cases hbd:fn.body with
  | some c=>rw [hbd]at hb;cases hb
  | none =>
   have e:([]++l++[]:List Value)=l:=by simp
   simp only [show(#[]:Array Value).toList=[]from rfl,e,hp,he,hv]
theorem OD.ext2 {x y z:Operand} {args:Array Operand} {ats:Array TypeId} {f:FuncId} {s:ByteArray} {c n:Int} (hx:zd E x=some (.fn f)) (ha:args.toList=[y,z]) (hy:zd E y=some (.str s)) (hz:zd E z=some (.int .u8 c)) (hb:extB P f=true)
  (he:X60 P (callFunc f #[.string s,.int .u8 c])=some (.value (.int .i64 n)))
  (h:OD P ov C ops l ⟨pt C.nt E dst (.int .i64 n),L⟩ q):OD P ov C ops (⟨dst,.call ⟨.value x,args,ats⟩,ty,pos,after,none⟩::l) ⟨E,L⟩ q:=by
 intro g s' a S
 obtain⟨vx,q1,q2⟩:=X0M S hx
 obtain⟨vy,p1,p2⟩:=X0M S hy
 obtain⟨vz,r1,r2⟩:=X0M S hz
 cases q2;cases p2;cases r2
 refine X4L.cons S.kp (fun _ _=>rfl) (X5F.ext rfl q1 (l:=[.string s,.int .u8 c]) (by rw [ha];simp only [X5X,p1,r1]) hb rfl he rfl ?_)
 exact h g _ a (S.put (show DR (MM C.M g) g a (.int .i64 n) (.int .i64 n)from CR.int) dst)
end
end Go.Vai
namespace Go.Vai
noncomputable section
variable {P:Program} {ov:Ov} {C:Cx0} {ops:Array Oper} {dst:Option Nat} {ty:TypeId} {pos:String} {after:Array Edge} {l:List Oper} {E:X1F} {L:List Ob} {q:SD→Prop}
theorem XHQ {t:TypeId} {ox oy:Operand} {a:Int} {n:Nat} (hn:0<n):X33 P .rem t ox oy (.int .i64 a) (.int .i64 (n:Int))=some (.int .i64 (a.tmod n)):=by
 have e1:Nat.blt 0 n=true:=by simpa using hn
 have e0:¬ (n:Int)=0:=by omega
 cases a with
 | ofNat m =>
  have:X9m .rem (.int .i64 (Int.ofNat m)) (.int .i64 (n:Int))=some (.int .i64 (Int.ofNat (Nat.mod m n))):=by
   show(match kEq .i64 .i64 with | true=>XD8 .rem .i64 (Int.ofNat m) (Int.ofNat n) | false=>none)=_
   simp only [show kEq .i64 .i64=true from rfl,XD8,XL3,e1]
  unfold X33;rw [this];rfl
 | negSucc m =>
  have:X9m .rem (.int .i64 (Int.negSucc m)) (.int .i64 (n:Int))=none:=rfl
  unfold X33;rw [this]
  show XAs P .rem t ox oy (.int .i64 (Int.negSucc m)) (.int .i64 (n:Int))=_
  unfold XAs
  have hp:X1a P (do eqGuard .rem t ox oy (.int .i64 (Int.negSucc m)) (.int .i64 (n:Int));binOp .rem t (.int .i64 (Int.negSucc m)) (.int .i64 (n:Int)))=some (.int .i64 ((Int.negSucc m).tmod n)):=by
   have h2:X60 P (do eqGuard .rem t ox oy (.int .i64 (Int.negSucc m)) (.int .i64 (n:Int));binOp .rem t (.int .i64 (Int.negSucc m)) (.int .i64 (n:Int)))=some (.int .i64 ((Int.negSucc m).tmod n)):=by
    rw [X0w (a:=()) rfl]
    show X60 P (Op.intDiv .rem .i64 (Int.negSucc m) (n:Int))=_
    unfold Op.intDiv;rw [if_neg e0];rfl
   unfold X1a;rw [h2];rfl
  simp only [show(X04 (.int .i64 (Int.negSucc m)) && X04 (.int .i64 (n:Int)))=true from rfl,hp]
theorem OD.remZ {t:TypeId} {x y:Operand} {c:TypeId} {a:Int} {n:Nat} (hx:zd E x=some (.int .i64 a)) (hy:zd E y=some (.int .i64 (n:Int))) (hn:0<n)
  (h:OD P ov C ops l ⟨pt C.nt E dst (.int .i64 (a.tmod n)),L⟩ q):OD P ov C ops (⟨dst,.binOp .rem t x y c,ty,pos,after,none⟩::l) ⟨E,L⟩ q:=by
 refine OD.plain (fun g s' a' S=>?_) h
 obtain⟨vx,q1,q2⟩:=X0M S hx
 obtain⟨vy,p1,p2⟩:=X0M S hy
 cases q2;cases p2
 refine⟨_,?_,CR.int⟩
 simp only [X0c,q1,p1]
 exact X0I (XHQ hn)
theorem XHR {z:Int} {n:Nat} (hn:0<n):((z.tmod n+n).tmod n)=((z % (n:Int)).toNat:Int):=by
 have h1:0≤z % (n:Int):=Int.emod_nonneg z (by omega)
 have h2:z % (n:Int)<n:=Int.emod_lt_of_pos z (by omega)
 have h3 : -(n:Int)<z.tmod n:=by
  have:=Int.lt_tmod_of_pos z (b:=(n:Int)) (by omega);omega
 have h4:0≤z.tmod n+n:=by omega
 rw [Int.tmod_eq_emod_of_nonneg h4]
 have h5:(z.tmod n+n) % (n:Int)=z % n:=by
  rw [Int.add_emod_right]
  have:=Int.mul_tdiv_add_tmod z n
  conv=>rhs;rw [← this]
  rw [Int.mul_add_emod_self_left]
 rw [h5]
 show z % n=((z % n).toNat:Int)
 omega
end
end Go.Vai
namespace Go.Vai
noncomputable section
variable {P:Program} {ov:Ov} {C:Cx0}
variable {ops:Array Oper} {dst:Option Nat} {ty:TypeId} {pos:String} {after:Array Edge} {l:List Oper} {E:X1F} {L:List Ob} {q:SD→Prop}
def X3x (b i n c:Nat):D:=.lit (.slice (some ⟨b,i,none⟩) n c)
theorem FnD.introL {f:FuncId} {e n:Nat} {cs:List D} {args:List D} {L:List Ob} {Q:D→List Ob→Prop} {fn:Func} {c:Code} (hov:ov f=none) (hfn:P.funcs[f]?=some fn) (hc:fn.body=some c) (hn:Nat.blt (max fn.ntmps (args.length+1)) 1000000=true) (hn0:0<n)
  (h:∀ M a0 g0 b i c',g0.length=L.length→X7G (MM M g0) a0 b i e n cs→n≤c'→CD P ov ⟨max fn.ntmps (args.length+1),M,a0,g0,fun i=>∃ cs,L[i]?=some (.box cs)⟩ c ⟨XKw 0 (X3x b i n c'::args),L⟩ (XKx P fn.results L.length Q)):FnD P ov f (.sl e n cs::args) L Q:=by
 intro M g a vs ok old hlen nd hcl hobj hargs
 cases hargs with
 | @cons d v ds' vs' h1 hargs =>
 rcases CR.sl_inv (show CR (MM M g) a (.sl e n cs) v from h1)with⟨rfl,_,_⟩ | ⟨b,i,c',rfl,hc',hsl⟩
 · omega
 have hargs':F2 (D1 (MM M g) g a) (X3x b i n c'::args) (.slice (some ⟨b,i,none⟩) n c'::vs'):=.cons (show CR (MM M g) a (X3x b i n c') _ from .lit rfl) hargs
 have hl:args.length+1=(Value.slice (some ⟨b,i,none⟩) n c'::vs').length:=by rw [List.length_cons,hargs.length]
 refine Fn.intro hov hfn hc (by rw [← hl];exact hn) ?_
 have S:SR ⟨max fn.ntmps (args.length+1),M,a,g,fun i=>∃ cs,L[i]?=some (.box cs)⟩ ⟨XKw 0 (X3x b i n c'::args),L⟩ g (XLl (.slice (some ⟨b,i,none⟩) n c'::vs')) a:=by
  refine⟨ok,old,fun t d e=>?_,hlen,Nat.le_refl _,hobj,nd,fun k hk=>⟨(hcl k hk).1,(hcl k hk).2,.inl hk⟩,X1d.refl _ _,ok,fun i b k cs h1 _=>h1,fun i cs _ h=>⟨cs,h⟩⟩
  obtain⟨_,q2⟩:=XEn e
  rw [Nat.sub_zero]at q2
  obtain⟨v,q3,q4⟩:=hargs'.get t d q2
  show DR _ _ _ d (((Value.slice (some ⟨b,i,none⟩) n c'::vs')[t]?).getD undef)
  rw [q3];exact q4.dr
 have F:=h M a g b i c' hlen hsl hc' g _ a S
 rw [← hl]
 have fin:∀ s a',X8v ⟨max fn.ntmps (args.length+1),M,a,g,fun i=>∃ cs,L[i]?=some (.box cs)⟩ (XFk P fn.results L.length Q) s a'→∃ v,X8N P fn.results s a'=some v∧∃ r L' g',DR (MM M g') g' a' r v∧g'.length=L'.length∧L.length≤L'.length∧g'.cls.Nodup∧(∀ k∈g'.cls,¬ M k∧k<a'.next∧(k∈g.cls∨a.next≤k)) ∧
   (∀ (i:Nat) x o,g'[i]?=some x→L'[i]?=some o→ObR (MM M g') g' a' x o)∧X1d (·∈g.cls) a a'∧a'.ok∧(∀ (i b k:Nat) cs,g[i]?=some (some (b,k))→L'[i]?=some (.box cs)→g'[i]?=some (some (b,k)))∧(∀ (i:Nat) cs,i<L.length→L'[i]?=some (.box cs)→∃ cs0,L[i]?=some (.box cs0))∧Q r L':=by
  rintro s a' ⟨σ,g',S',r,k,hr,hk,hkl,hcb,q⟩
  obtain⟨v,q1,q2⟩:=XBs S' hr
  refine⟨v,q1,r,σ.L.take k,g'.take k,?_⟩
  have S2:SR ⟨max fn.ntmps (args.length+1),M,a,g,fun i=>∃ cs,L[i]?=some (.box cs)⟩ ⟨[(0,r)],σ.L⟩ g' (fun _=>v) a':=⟨S'.ok,S'.old,(fun t d e=>by
   rcases X1j e with⟨rfl,rfl⟩ | ⟨_,h2⟩
   · exact q2
   · cases h2),S'.len,S'.pl,S'.obj,S'.nd,S'.nm,S'.kp,S'.ok0,S'.pre,S'.pk⟩
  have T:=S2.trunc (k:=k) (by show g.length≤k;omega) hcb
  exact⟨T.env 0 r (X0q ..),T.len,by simp;omega,T.nd,T.nm,T.obj,T.kp,T.ok,T.pre,fun i cs h1 h2=>T.pk i cs (by show i<g.length;omega) h2,q⟩
 exact F.mono (fun s a' k=>fin s a' k) (fun i s a' ⟨_,_,_,k⟩=>k) fun s a' k=>fin s a' k
section
variable {nt:Nat} {M:Nat→Prop} {a0:AH} {g0:Gh} {bx:Nat→Prop} {b i e n c:Nat} {cs:List D}
theorem X7G.now {σ:SD} {g:Gh} {s:Env} {a:AH} (h:X7G (MM M g0) a0 b i e n cs) (S:SR ⟨nt,M,a0,g0,bx⟩ σ g s a):X7G (MM M g) a b i e n cs:=by
 refine h.mono S.kp (fun k m=>.inr m) fun k hk m=>?_
 rcases m with m | m
 · exact .inl m
 ·
  rcases(S.nm k m).2.2 with q | q
  · exact .inr q
  ·
   have q:a0.next≤k:=q
   omega
theorem OD.idxL {t:TypeId} {x y:Operand} {k:IntKind} {z:Int} (hx:zd E x=some (X3x b i n c)) (hy:zd E y=some (.int k z)) (ht:X3c P t=some e) (h0:0≤z) (h1:z<n)
  (h:OD P ov C ops l ⟨pt C.nt E dst (X1T b (i+z.toNat*e)),L⟩ q):OD P ov C ops (⟨dst,.indexAddr t x y,ty,pos,after,none⟩::l) ⟨E,L⟩ q:=by
 refine OD.plain (fun g s a S=>?_) h
 obtain⟨elem,hu,hs⟩:=X2x ht
 obtain⟨vx,q1,q2⟩:=X0M S hx
 obtain⟨vy,p1,p2⟩:=X0M S hy
 cases p2
 have q2:=X2L q2
 subst q2
 refine⟨.pointer (some ⟨b,i+z.toNat*e,none⟩),?_,.lit rfl⟩
 simp only [X0c,q1,p1]
 refine X0I ?_
 simp only [X17,hu,hs,decide_eq_true h0,decide_eq_true h1,Bool.and_self]
theorem OD.fadL {t:TypeId} {x:Operand} {f o o1 b':Nat} {x':Option Nat} (hx:zd E x=some (X1T b (i+o))) (hf:X0r P t (.pointer (some ⟨0,0,none⟩)) f=some (.pointer (some ⟨b',o1,x'⟩)))
  (h:OD P ov C ops l ⟨pt C.nt E dst (X1T b (i+(o+o1))),L⟩ q):OD P ov C ops (⟨dst,.fieldAddr t x f,ty,pos,after,none⟩::l) ⟨E,L⟩ q:=by
 refine OD.plain (fun g s a S=>?_) h
 obtain⟨vx,q1,q2⟩:=X0M S hx
 have q2:=X2L q2
 subst q2
 refine⟨.pointer (some ⟨b,i+(o+o1),none⟩),?_,.lit rfl⟩
 simp only [X0c,q1]
 refine X0I ?_
 have:=X4B (b:=b) (i:=i+o) hf
 rw [← Nat.add_assoc]
 exact this
theorem XCn {t:TypeId} {b i b' o1:Nat} {k:IntKind} {z:Int} {x':Option Nat} (h:X17 P t (.pointer (some ⟨0,0,none⟩)) (.int k z)=some (.pointer (some ⟨b',o1,x'⟩))):X17 P t (.pointer (some ⟨b,i,none⟩)) (.int k z)=some (.pointer (some ⟨b,i+o1,none⟩)):=by
 unfold X17 at h ⊢
 simp only at h ⊢
 split at h
 case h_2=>cases h
 rename_i n elem hu
 (try rw [hu]);(try simp only)
 split at h
 case h_2=>cases h
 rename_i e he
 (try rw [he]);(try simp only)
 split at h
 case h_2=>cases h
 rename_i hc
 (try rw [hc]);(try simp only)
 cases h
 rw [Nat.zero_add]
theorem OD.idxEA {t:TypeId} {x y:Operand} {e n o o1 b':Nat} {cs:List D} {k:IntKind} {z:Int} {x':Option Nat} (hx:zd E x=some (.ep e n cs o)) (hy:zd E y=some (.int k z)) (hA:X17 P t (.pointer (some ⟨0,0,none⟩)) (.int k z)=some (.pointer (some ⟨b',o1,x'⟩)))
  (h:OD P ov C ops l ⟨pt C.nt E dst (.ep e n cs (o+o1)),L⟩ q):OD P ov C ops (⟨dst,.indexAddr t x y,ty,pos,after,none⟩::l) ⟨E,L⟩ q:=by
 refine OD.plain (fun g s a S=>?_) h
 obtain⟨vx,q1,b,i,rfl,q3⟩:=X0M S hx
 obtain⟨vy,p1,p2⟩:=X0M S hy
 cases p2
 refine⟨.pointer (some ⟨b,i+(o+o1),none⟩),?_,b,i,rfl,q3⟩
 simp only [X0c,q1,p1]
 refine X0I ?_
 rw [← Nat.add_assoc]
 exact XCn hA
theorem OD.ldSA {t:TypeId} {x:Operand} {o m:Nat} {ds:List D} (hsl:X7G (MM M g0) a0 b i e n cs) (hx:zd E x=some (X1T b (i+o))) (ha:X2P P t=some true) (hs:sz P t=some m) (hd:(cs.drop o).take m=ds) (hm:ds.length=m) (h0:0<m)
  (h:OD P ov ⟨nt,M,a0,g0,bx⟩ ops l ⟨pt nt E dst (.agg ds),L⟩ q):OD P ov ⟨nt,M,a0,g0,bx⟩ ops (⟨dst,.load t x,ty,pos,after,none⟩::l) ⟨E,L⟩ q:=by
 refine OD.plain (fun g s a S=>?_) h
 obtain⟨vx,q1,q2⟩:=X0M S hx
 have q2:=X2L q2
 subst q2
 obtain⟨B,h1,h2,h3,h4,h5,h6,h7⟩:=(X7G.now hsl S).ex
 have hlen:o+m≤cs.length:=by
  rw [← hd,List.length_take,List.length_drop]at hm;omega
 refine⟨.agg ((B.l.drop (i+o)).take m).toArray,?_,_,rfl,?_⟩
 ·
  simp only [X0c,q1]
  refine X0I ?_
  simp only [X4K,ha,hs]
  rw [X7i h1 (by omega)]
 ·
  subst hd
  refine F2.of_get (by simp;omega) fun j d v e1 e2=>?_
  rw [List.getElem?_take]at e1 e2
  split at e1
  case isFalse=>cases e1
  rename_i hj
  rw [if_pos hj,List.getElem?_drop]at e2
  rw [List.getElem?_drop]at e1
  obtain⟨u,r1,r2⟩:=h7 _ _ e1
  rw [← Nat.add_assoc]at r1
  rw [r1]at e2
  cases e2
  exact r2.dl
theorem OD.ldSL {t:TypeId} {x:Operand} {o:Nat} {d:D} (hsl:X7G (MM M g0) a0 b i e n cs) (hx:zd E x=some (X1T b (i+o))) (ha:X2P P t=some false) (hd:cs[o]?=some d)
  (h:OD P ov ⟨nt,M,a0,g0,bx⟩ ops l ⟨pt nt E dst d,L⟩ q):OD P ov ⟨nt,M,a0,g0,bx⟩ ops (⟨dst,.load t x,ty,pos,after,none⟩::l) ⟨E,L⟩ q:=by
 refine OD.plain (fun g s a S=>?_) h
 obtain⟨vx,q1,q2⟩:=X0M S hx
 have q2:=X2L q2
 subst q2
 obtain⟨B,h1,h2,h3,h4,h5,h6,h7⟩:=(X7G.now hsl S).ex
 obtain⟨u,r1,r2⟩:=h7 _ _ hd
 refine⟨u,?_,r2.dl.dr⟩
 simp only [X0c,q1]
 refine X0I ?_
 simp only [X4K,ha]
 rw [XEc h1,← r1]
def FrzS (P:Program) (ops:Array Oper) (b i e n:Nat) (E:X1F):List Nat→Prop
 | []=>True
 | k::l=>(∃ t x,XIF ops k=some (t,x)∧(lk E x=some (.tup [])∨∃ o,lk E x=some (X1T b (i+o))∧((X2P P t=some true∧∃ m,sz P t=some m∧o+m≤n*e)∨(X2P P t=some false∧o<n*e))))∧FrzS P ops b i e n E l
theorem XKY {σ:SD} {g:Gh} {s:Env} {a:AH} (hsl:X7G (MM M g0) a0 b i e n cs) (S:SR ⟨nt,M,a0,g0,bx⟩ σ g s a):∀ {fz:List Nat},FrzS P ops b i e n σ.E fz→Frz P ops (fun a'=>X1d (·∈g0.cls) a0 a') fz s:=by
 intro fz
 induction fz with
 | nil=>intro _ y hy;cases hy
 | cons y l ih =>
  intro hf z hz t x eq
  obtain⟨⟨t',x',f1,f2⟩,f3⟩:=hf
  rcases List.mem_cons.1 hz with rfl | hz
  ·
   rw [f1]at eq;cases eq
   rcases f2 with f2 | ⟨o,f2,f4⟩
   ·
    left
    obtain⟨vs,e1,e2⟩:=S.env _ _ f2
    cases e2
    exact e1
   ·
    right
    have hv:=X2L (S.env _ _ f2)
    obtain⟨B,h1,h2,h3,h4,h5,h6,h7⟩:=hsl.ex
    have hk:B.k ∉ g0.cls:=fun hm=>h2 (.inr hm)
    rcases f4 with⟨ha,m,hs,hm⟩ | ⟨ha,ho⟩
    ·
     refine⟨.agg ((B.l.drop (i+o)).take m).toArray,fun a' K=>?_⟩
     rw [hv]
     simp only [X4K,ha,hs]
     rw [X7i (K.blk _ _ h1 hk) (by omega)]
    ·
     refine⟨B.l[i+o]'(by omega),fun a' K=>?_⟩
     rw [hv]
     simp only [X4K,ha]
     rw [XEc (K.blk _ _ h1 hk)]
     exact List.getElem?_eq_getElem _
  · exact ih f3 z hz t x eq
theorem CD.drawnS (fz:List Nat) {id:Nat} {σ:SD} {Q:X5H} (hsl:X7G (MM M g0) a0 b i e n cs) (ht:X9V fz nt ops=true) (h:OD P ov ⟨nt,M,a0,g0,bx⟩ ops ops.toList σ fun σ'=>XAn (X9T ops) σ'.E=true∧FrzS P ops b i e n σ'.E fz∧Q.n σ'):CD P ov ⟨nt,M,a0,g0,bx⟩ (.region id ops true) σ Q:=by
 intro g s a S
 refine Cx.drawn ht ((h g s a S).mono fun s' a' k=>?_)
 obtain⟨σ',g',S',k1,k2,k3⟩:=k
 refine⟨fun d hd=>?_,XKY hsl S' k2,σ',g',S',k3⟩
 have:=List.all_eq_true.1 k1 d hd
 split at this
 · rename_i x hx;exact XEt (S'.env d x hx) this
 · cases this
end
def X6c (P:Program) (t:TypeId):Bool:=match X32 P t with
 | some [_,_,_]=>true
 | _=>false
theorem X7k {t:TypeId} {ox oy:Operand} {k k' k'':IntKind} {a b c a' b' c':Int} (h:X6c P t=true):X33 P .eql t ox oy (.agg #[.int k a,.int k' b,.int k'' c]) (.agg #[.int k a',.int k' b',.int k'' c'])=some (.bool (decide (a=a'∧b=b'∧c=c'))):=by
 unfold X6c at h
 split at h
 ·
  rename_i f1 f2 f3 e
  have e2:eqF [f1,f2,f3] [.int k a,.int k' b,.int k'' c] [.int k a',.int k' b',.int k'' c']=some (decide (a=a'∧b=b'∧c=c')):=by
   simp only [eqF,X8P,X9l]
   have F:∀ {x y:Int},¬ x=y→(x == y)=false:=fun h=>by simpa using h
   have T:∀ {x y:Int},x=y→(x == y)=true:=fun h=>by simpa using h
   by_cases h1:a=a'
   ·
    by_cases h2:b=b'
    ·
     by_cases h3:c=c'
     · rw [T h1,T h2,T h3,decide_eq_true ⟨h1,h2,h3⟩]
     · rw [T h1,T h2,F h3,decide_eq_false fun h=>h3 h.2.2]
    · rw [T h1,F h2,decide_eq_false fun h=>h2 h.2.1]
   · rw [F h1,decide_eq_false fun h=>h1 h.1]
  show(match XFH P .eql t (.agg #[.int k a,.int k' b,.int k'' c]) (.agg #[.int k a',.int k' b',.int k'' c'])with | some v=>some v | none=>_)=_
  simp only [XFH,e,e2]
 · cases h
theorem OD.eq3 {t:TypeId} {x y:Operand} {c0:TypeId} {k k' k'':IntKind} {a b c a' b' c':Int} (hx:zd E x=some (.agg [.int k a,.int k' b,.int k'' c])) (hy:zd E y=some (.agg [.int k a',.int k' b',.int k'' c'])) (ht:X6c P t=true)
  (h:OD P ov C ops l ⟨pt C.nt E dst (.bool (decide (a=a'∧b=b'∧c=c'))),L⟩ q):OD P ov C ops (⟨dst,.binOp .eql t x y c0,ty,pos,after,none⟩::l) ⟨E,L⟩ q:=by
 refine OD.plain (fun g s u S=>?_) h
 obtain⟨vx,q1,vs,rfl,q2⟩:=X0M S hx
 obtain⟨vy,p1,ws,rfl,p2⟩:=X0M S hy
 cases q2 with
 | cons u1 t1=>cases t1 with
  | cons u2 t2=>cases t2 with
   | cons u3 t3 =>
    cases t3
    cases p2 with
    | cons w1 s1=>cases s1 with
     | cons w2 s2=>cases s2 with
      | cons w3 s3 =>
       cases s3
       cases u1;cases u2;cases u3;cases w1;cases w2;cases w3
       refine⟨.bool (decide (a=a'∧b=b'∧c=c')),?_,CR.bool⟩
       simp only [X0c,q1,p1]
       exact X0I (X7k ht)
theorem X8c {t:TypeId} {ox oy:Operand} {k k' k'':IntKind} {a b c a' b' c':Int} (h:X6c P t=true):X33 P .neq t ox oy (.agg #[.int k a,.int k' b,.int k'' c]) (.agg #[.int k a',.int k' b',.int k'' c'])=some (.bool (!decide (a=a'∧b=b'∧c=c'))):=by
 unfold X6c at h
 split at h
 ·
  rename_i f1 f2 f3 e
  have e2:eqF [f1,f2,f3] [.int k a,.int k' b,.int k'' c] [.int k a',.int k' b',.int k'' c']=some (decide (a=a'∧b=b'∧c=c')):=by
   have:=X7k (P:=P) (t:=t) (ox:=ox) (oy:=oy) (k:=k) (k':=k') (k'':=k'') (a:=a) (b:=b) (c:=c) (a':=a') (b':=b') (c':=c') (by unfold X6c;rw [e])
   have this:(match XFH P .eql t (.agg #[.int k a,.int k' b,.int k'' c]) (.agg #[.int k a',.int k' b',.int k'' c'])with | some v=>some v | none=>_)=_:=this
   simp only [XFH,e]at this
   split at this
   ·
    rename_i v hv
    split at hv
    ·
     rename_i r hr
     cases hv
     simp only [Option.some.injEq,Value.bool.injEq]at this
     rw [hr,this]
    · cases hv
   ·
    rename_i hv
    split at hv
    · cases hv
    ·
     rename_i hn
     simp only [eqF,X8P]at hn
     revert hn
     cases eqI a a'<;>cases eqI b b'<;>cases eqI c c'<;>simp
  show(match XFH P .neq t (.agg #[.int k a,.int k' b,.int k'' c]) (.agg #[.int k a',.int k' b',.int k'' c'])with | some v=>some v | none=>_)=_
  simp only [XFH,e,e2]
 · cases h
theorem OD.ne3 {t:TypeId} {x y:Operand} {c0:TypeId} {k k' k'':IntKind} {a b c a' b' c':Int} (hx:zd E x=some (.agg [.int k a,.int k' b,.int k'' c])) (hy:zd E y=some (.agg [.int k a',.int k' b',.int k'' c'])) (ht:X6c P t=true)
  (h:OD P ov C ops l ⟨pt C.nt E dst (.bool (!decide (a=a'∧b=b'∧c=c'))),L⟩ q):OD P ov C ops (⟨dst,.binOp .neq t x y c0,ty,pos,after,none⟩::l) ⟨E,L⟩ q:=by
 refine OD.plain (fun g s u S=>?_) h
 obtain⟨vx,q1,vs,rfl,q2⟩:=X0M S hx
 obtain⟨vy,p1,ws,rfl,p2⟩:=X0M S hy
 cases q2 with
 | cons u1 t1=>cases t1 with
  | cons u2 t2=>cases t2 with
   | cons u3 t3 =>
    cases t3
    cases p2 with
    | cons w1 s1=>cases s1 with
     | cons w2 s2=>cases s2 with
      | cons w3 s3 =>
       cases s3
       cases u1;cases u2;cases u3;cases w1;cases w2;cases w3
       refine⟨.bool (!decide (a=a'∧b=b'∧c=c')),?_,CR.bool⟩
       simp only [X0c,q1,p1]
       exact X0I (X8c ht)
theorem OD.appC {args:Array Operand} {ats:Array TypeId} {y:Operand} {e m:Nat} {ds:List D} (ha:args.toList=[.const (.slice none 0 0),y]) (ht:Go.Vai.appT P ats=some e) (hy:zd E y=some (.sl e m ds)) (h1:m*e≤100000000) (h2:m≤100000000)
  (h:OD P ov C ops l ⟨pt C.nt E dst (.row L.length 0 m m),L++[.row e m ds]⟩ q):OD P ov C ops (⟨dst,.call ⟨.builtin .append,args,ats⟩,ty,pos,after,none⟩::l) ⟨E,L⟩ q:=by
 refine OD.heap (fun g s a S=>?_) h
 obtain⟨vy,p1,p2⟩:=X0M S hy
 obtain⟨new,x1,x2,x3⟩:=X5w (g:=g) p2
 have hnew:new.length=m*e:=by rw [← x2.length];exact x3
 have hc:zev s (.const (.slice none 0 0))=some (.slice none 0 0):=rfl
 rcases Nat.eq_zero_or_pos m with h0 | h0
 ·
  subst h0
  have hn0:new=[]:=List.length_eq_zero_iff.1 (by omega)
  subst hn0
  have hd0:ds=[]:=List.length_eq_zero_iff.1 (by rw [x2.length];rfl)
  subst hd0
  have hz:X0t a (.slice none 0 0) e 0 0 0 []=some (.slice none 0 0,a):=rfl
  obtain⟨r1,r2⟩:=X4N ht rfl x1 (by simp) (by omega) (by omega) hz
  refine⟨.slice none 0 0,a,g++[none],?_,S.nilRow e,.inl ⟨by rw [← S.len];simp,rfl,rfl,rfl⟩⟩
  simp only [X0c,ha,X5X,hc,p1];exact r1
 ·
  have hz:X0t a (.slice none 0 0) e 0 0 m new=some (.slice (some ⟨a.next,0,none⟩) m m,a.new new e):=by
   have hble:Nat.ble (0+m) 0=false:=by
    cases hb:Nat.ble (0+m) 0 with
    | false=>rfl
    | true=>have:=Nat.le_of_ble_eq_true hb;omega
   simp only [X0t,hble,Nat.beq_refl,XFi]
  obtain⟨r1,r2⟩:=X4N ht rfl x1 hnew (by rw [Nat.zero_add];exact h1) (by omega) hz
  obtain⟨S',r'⟩:=S.newRow (n:=m) (c:=m) x3 x2 (Nat.le_refl _)
  refine⟨_,_,_,?_,S',r'⟩
  simp only [X0c,ha,X5X,hc,p1];exact r1
end
end Go.Vai

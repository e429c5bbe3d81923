/-
  What is proved here: data told in words that say less; bits of integers; a row that grows by data of any length (part RM  a sign turned into a text; calls of what the model gives by itself (part RN of the layer for plain d remainders of any integers, texts laid end to end (part RQ of the layer for plain data). a row that a call is given, told by its place; loads of its cells that are not ordered with calls; s No conditions but those that the theorems state.
-/
import Derived.Test.YtiebldaihnbkmaaGreatDoorRJ
set_option linter.unusedVariables false
set_option linter.unusedSimpArgs false
namespace Go.Vai
noncomputable section
variable {P:Program} {ov:Ov} {C:Cx0} {ops:Array Oper} {dst:Option Nat} {ty:TypeId} {pos:String} {after:Array Edge} {l:List Oper} {E:X19} {L:List Ob} {q:SD→Prop}
theorem OD.imp (t:Nat) {d d':D} (hl:lk E t=some d) (k:∀ M g a v,DR M g a d v→DR M g a d' v) (h:OD P ov C ops l ⟨setv t d' E,L⟩ q):OD P ov C ops l ⟨E,L⟩ q :=
 fun g s a S=>h g s a (S.setv (k _ _ _ _ (S.env t d hl)))
def XDH:Nat→D→D
 | 0,d=>d
 | e+1,.lit (.slice none 0 0)=>.sl (e+1) 0 []
 | _,d=>d
def reNil:List Nat→List D→List D
 | e::es,d::ds=>XDH e d::reNil es ds
 | _,ds=>ds
theorem XDI {M:Nat→Prop} {g:Gh} {a:AH} {e:Nat} {d:D} {v:Value} (h:DL M g a d v):DL M g a (XDH e d) v:=by
 unfold XDH
 split
 · exact h
 · cases h;exact CR.nil
 · exact h
theorem XFA {M:Nat→Prop} {g:Gh} {a:AH}:∀ {es:List Nat} {ds:List D} {vs:List Value},F2 (DL M g a) ds vs→F2 (DL M g a) (reNil es ds) vs:=by
 intro es
 induction es with
 | nil=>intro ds vs h;cases ds<;>exact h
 | cons e es ih =>
  intro ds vs h
  cases h with
  | nil=>exact .nil
  | cons h t=>exact .cons (XDI h) (ih t)
theorem OD.reNil (t:Nat) (es:List Nat) {ds ds':List D} (hl:lk E t=some (.agg ds)) (e:Go.Vai.reNil es ds=ds') (h:OD P ov C ops l ⟨setv t (.agg ds') E,L⟩ q):OD P ov C ops l ⟨E,L⟩ q :=
 OD.imp (d:=.agg ds) (d':=.agg ds') t hl (fun M g a v (hh:DR M g a (.agg ds) v)=>by obtain⟨vs,h1,h2⟩:=hh;exact⟨vs,h1,e ▸ XFA h2⟩) h
theorem OD.bit {op:BinOp} {t:TypeId} {x y:Operand} {c:TypeId} {k k':IntKind} {a b z:Int} (hx:zd E x=some (.int k a)) (hy:zd E y=some (.int k' b)) (hq:X9j op (.int k a) (.int k' b)=some (.int k z))
  (h:OD P ov C ops l ⟨pt C.nt E dst (.int k z),L⟩ q):OD P ov C ops (⟨dst,.binOp op t x y c,ty,pos,after,none⟩::l) ⟨E,L⟩ q:=by
 refine OD.plain (fun g s' a S=>?_) h
 obtain⟨vx,q1,q2⟩:=X0M S hx
 obtain⟨vy,p1,p2⟩:=X0M S hy
 cases q2;cases p2
 refine⟨_,?_,CR.int⟩
 simp only [X0c,q1,p1]
 refine X0O ?_
 unfold X32;rw [hq]
theorem X5k {k:IntKind} {m:Nat} (h:m<kHi k):X05 k (.ofNat m)=(m:Int):=by
 unfold X05
 have:Nat.blt m (kHi k)=true:=by simpa using h
 simp only [this,Int.ofNat_eq_natCast]
theorem XHb {m n b:Nat} (h:m<b):m &&& n<b:=Nat.lt_of_le_of_lt Nat.and_le_left h
theorem XFB {k:IntKind} {m n:Nat} (h:m<kHi k) (h2:n<kHi k):X9j .and (.int k (m:Int)) (.int k (n:Int))=some (.int k ((m &&& n:Nat):Int)):=by
 have hk:kEq k k=true:=by cases k<;>rfl
 have e1:Nat.blt m (kHi k)=true:=by simpa using h
 have e2:Nat.blt n (kHi k)=true:=by simpa using h2
 show(match kEq k k with | true=>XDx .and k (Int.ofNat m) (Int.ofNat n) | false=>none)=_
 rw [hk]
 simp only [XDx,XHr,e1,e2,Bool.and_self]
 rw [X5k (by exact XHb h)];rfl
theorem q_or {k:IntKind} {m n:Nat} (h:m<kHi k) (h2:n<kHi k) (h3:m ||| n<kHi k):X9j .or (.int k (m:Int)) (.int k (n:Int))=some (.int k ((m ||| n:Nat):Int)):=by
 have hk:kEq k k=true:=by cases k<;>rfl
 have e1:Nat.blt m (kHi k)=true:=by simpa using h
 have e2:Nat.blt n (kHi k)=true:=by simpa using h2
 show(match kEq k k with | true=>XDx .or k (Int.ofNat m) (Int.ofNat n) | false=>none)=_
 rw [hk]
 simp only [XDx,XHr,e1,e2,Bool.and_self]
 rw [X5k (by exact h3)];rfl
theorem q_shl {k k':IntKind} {m n:Nat} (h2:n≤k.bits) (h3:m*2 ^ n<kHi k):X9j .shl (.int k (m:Int)) (.int k' (n:Int))=some (.int k ((m*2 ^ n:Nat):Int)):=by
 have e1:Nat.ble n k.bits=true:=by simpa using h2
 show qsh .shl k (Int.ofNat m) (Int.ofNat n)=_
 simp only [qsh,e1]
 rw [X5k (by exact h3)];rfl
theorem and63 (m:Nat):m &&& 63=m % 64:=Nat.and_two_pow_sub_one_eq_mod m 6
theorem and31 (m:Nat):m &&& 31=m % 32:=Nat.and_two_pow_sub_one_eq_mod m 5
theorem and15 (m:Nat):m &&& 15=m % 16:=Nat.and_two_pow_sub_one_eq_mod m 4
theorem and7 (m:Nat):m &&& 7=m % 8:=Nat.and_two_pow_sub_one_eq_mod m 3
theorem or64 {a b:Nat} (h:b<64):a*2 ^ 6 ||| b=a*64+b:=by
 have:=Nat.shiftLeft_add_eq_or_of_lt (i:=6) (b:=b) (by omega) a
 rw [Nat.shiftLeft_eq]at this
 rw [← this]
theorem OD.appN {args:Array Operand} {ats:Array TypeId} {x y:Operand} {j e:Nat} {cs:List D} (ha:args.toList=[x,y]) (ht:Go.Vai.appT P ats=some e) (hx:zd E x=some (.row j 0 0 0)) (hL:L[j]?=some (.row e 0 cs)) (hy:zd E y=some (.sl e 0 []))
  (h:OD P ov C ops l ⟨pt C.nt (X2K j E) dst (.row j 0 0 0),X1p j (L.set j (.row e 0 cs))⟩ q):OD P ov C ops (⟨dst,.call ⟨.builtin .append,args,ats⟩,ty,pos,after,none⟩::l) ⟨E,L⟩ q:=by
 refine OD.heap (fun g s a S=>?_) h
 obtain⟨vx,q1,q2⟩:=X0M S hx
 obtain⟨vy,p1,p2⟩:=X0M S hy
 obtain⟨new,x1,x2,x3⟩:=X4E (g:=g) p2
 cases x2
 have hjL:=(List.getElem?_eq_some_iff.1 hL).1
 have hj:j<g.length:=by have:g.length=L.length:=S.len;omega
 have hg:g[j]?=some g[j]:=List.getElem?_eq_getElem hj
 have O0:=S.obj j _ _ hg hL
 obtain⟨hlen,O⟩:=O0
 rcases q2 with⟨e1,_,_,rfl⟩ | ⟨b,k,e1,rfl⟩
 ·
  have hz:X0j a (.slice none 0 0) e 0 0 0 []=some (.slice none 0 0,a):=rfl
  obtain⟨r1,r2⟩:=X3w ht rfl x1 (by simp) (by omega) (by omega) hz
  have hset:g.set j none=g:=by
   refine List.ext_getElem? fun i=>?_
   by_cases hi:i=j
   · subst hi;rw [List.getElem?_set_self hj,e1]
   · rw [List.getElem?_set_ne (fun q=>hi q.symm)]
  refine⟨.slice none 0 0,a,g,?_,?_,.inl ⟨e1,rfl,rfl,rfl⟩⟩
  · simp only [X0c,ha,X4t,q1,p1];exact r1
  ·
   have:=S.relay (j:=j) (x':=none) (o':=.row e 0 cs) (X1e.refl (fun _=>False) a) (fun _ f=>f.elim) S.ok hj (fun b k e=>by cases e) ⟨hlen,.inl ⟨rfl,rfl⟩⟩ (fun cs e=>by cases e)
   rw [hset]at this
   exact this
 rcases O with⟨o1,_⟩ | ⟨b',k',vs,o1,o2,o3⟩
 · rw [hg,o1]at e1;cases e1
 rw [hg,o1]at e1;cases e1
 have hz:X0j a (.slice (some ⟨b,0,none⟩) 0 0) e 0 0 0 []=some (.slice (some ⟨b,0,none⟩) 0 0,{ a with blk:=X1I a.blk b ⟨over vs 0 [],k,true,e⟩ none }):=by
  simp only [X0j,show Nat.ble (0+0) 0=true from rfl,o2,Nat.beq_refl,Nat.zero_add,Nat.zero_mul,AH.wrL,List.length_nil,Nat.zero_le,and_self,if_true]
 obtain⟨r1,r2⟩:=X3w ht rfl x1 (by simp) (by omega) (by omega) hz
 have K:=X2V (B':=⟨over vs 0 [],k,true,e⟩) o2 rfl
 have hk:k∈g.cls:=Gh.mem_cls.2 ⟨j,b,by rw [hg,o1]⟩
 have hset:g.set j (some (b,k))=g:=by
  refine List.ext_getElem? fun i=>?_
  by_cases hi:i=j
  · subst hi;rw [List.getElem?_set_self hj,hg,o1]
  · rw [List.getElem?_set_ne (fun q=>hi q.symm)]
 refine⟨.slice (some ⟨b,0,none⟩) 0 0,{ a with blk:=X1I a.blk b ⟨over vs 0 [],k,true,e⟩ none },g,?_,?_,.inr ⟨b,k,by rw [hg,o1],rfl⟩⟩
 · simp only [X0c,ha,X4t,q1,p1];exact r1
 ·
  have:=S.relay (j:=j) (x':=some (b,k)) (o':=.row e 0 cs) K (fun x w=>⟨b,by have w:x=k:=w;subst w;rw [hg,o1]⟩) (X7S S.ok o2 rfl) hj (fun b' k' e=>by cases e;exact .inl ⟨b,by rw [hg,o1]⟩)
   (by
    rw [hset]
    refine⟨hlen,.inr ⟨b,k,_,rfl,X3R,?_⟩⟩
    have R:F2 (CR (MM C.M g) a) cs (over vs 0 []):=by
     have:over vs 0 []=vs:=by simp [over]
     rw [this];exact o3
    refine R.mono fun d v r=>r.mono K (fun x w=>?_) (fun _ _ m=>m)
    have w:x=k:=w
    subst w;exact .inr hk)
   (fun cs e=>by cases e)
  rw [hset]at this
  exact this
theorem OD.appV' {α:Type} {f:α→D} {args:Array Operand} {ats:Array TypeId} {x y:Operand} {j n m:Nat} {xs vs:List α} {ds:List D} (ha:args.toList=[x,y]) (ht:Go.Vai.appT P ats=some 1) (hx:zd E x=some (.row j 0 n n)) (hL:L[j]?=some (.row 1 n (xs.map f))) (hy:zd E y=some (.sl 1 m ds)) (hv:ds=vs.map f) (hm:vs.length=m)
  (hl:xs.length=n) (h2:n+m≤100000000)
  (h:OD P ov C ops l ⟨pt C.nt (X2K j E) dst (.row j 0 (n+m) (n+m)),X1p j (L.set j (.row 1 (n+m) ((xs++vs).map f)))⟩ q):OD P ov C ops (⟨dst,.call ⟨.builtin .append,args,ats⟩,ty,pos,after,none⟩::l) ⟨E,L⟩ q:=by
 rcases Nat.eq_zero_or_pos m with h0 | h0
 ·
  subst h0
  have:vs=[]:=List.length_eq_zero_iff.1 hm
  subst this;subst hv
  rw [List.append_nil]at h
  rcases Nat.eq_zero_or_pos n with h1 | h1
  · subst h1;exact OD.appN ha ht hx hL hy h
  ·
   refine OD.appI ha ht hx hL hy (Nat.le_refl _) (Nat.le_refl _) h1 (by omega) (by omega) ?_
   rw [List.take_of_length_le (by simp;omega),List.map_nil,List.append_nil,List.drop_eq_nil_of_le (by simp;omega),List.append_nil]
   exact h
 · exact OD.appV ha ht hx hL hy hv hl h0 h2 h
end
end Go.Vai
namespace Go.Vai
noncomputable section
variable {P:Program} {ov:Ov} {C:Cx0} {ops:Array Oper} {dst:Option Nat} {ty:TypeId} {pos:String} {after:Array Edge} {l:List Oper} {E:X19} {L:List Ob} {q:SD→Prop}
def XFu (P:Program) (t:TypeId):Bool:=match P.underlying t with
 | some (.int .i32)=>true
 | _=>false
theorem XHc {src dst:TypeId} {r:Int} (hs:P.underlying src=some (.int .i32)) (hd:P.underlying dst=some .string):X5H P (convert src dst (.int .i32 r))=some (.string (Utf8.encode r)):=by
 unfold convert
 rw [X0m (X2X hs)]
 rw [X0m (X2X hd)]
 rfl
theorem OD.convRS {src dst':TypeId} {x:Operand} {r:Int} (hx:zd E x=some (.int .i32 r)) (hs:XFu P src=true) (hd:X6r P dst'=true)
  (h:OD P ov C ops l ⟨pt C.nt E dst (.str (Utf8.encode r)),L⟩ q):OD P ov C ops (⟨dst,.convert src dst' x,ty,pos,after,none⟩::l) ⟨E,L⟩ q:=by
 refine OD.plain (fun g s a S=>?_) h
 obtain⟨vx,q1,q2⟩:=X0M S hx
 cases q2
 have hd':=X4F hd
 have hs':P.underlying src=some (.int .i32):=by
  unfold XFu at hs;split at hs
  · assumption
  · cases hs
 refine⟨.string (Utf8.encode r),?_,CR.str⟩
 have hq:X8k P src dst' (.int .i32 r)=none:=by simp only [X8k,hs',hd']
 simp only [X0c,q1,X3P,hq,X04,X07,X1R,XHc hs' hd']
def extB (P:Program) (g:FuncId):Bool:=match P.funcs[g]? with
 | some fn=>match fn.name == "runtime.NumGoroutine" with
  | true=>false
  | false=>fn.body.isNone
 | none=>false
theorem X4d.ext {o:Oper} {x:Operand} {args:Array Operand} {ats:Array TypeId} (ho:o.op=.call ⟨.value x,args,ats⟩) {s:Env} {a:AH} {g:FuncId} {l:List Value} {v:Value}
  (hx:zev s x=some (.func (.func g) #[] #[])) (hl:X4t s args.toList=some l) (hb:extB P g=true) (hp:l.all X04=true) (he:X5H P (callFunc g l.toArray)=some (.value v)) (hv:X04 v=true) {Q:Value→AH→Prop} (q:Q v a):X4d P ov o s a Q:=by
 intro tm h hs A
 refine⟨v,h,a,⟨0,fun k _=>?_⟩,A,q⟩
 unfold X09
 rw [ho]
 simp only [X0k hs h hx,X2m hs h hl]
 unfold extB at hb
 split at hb
 case h_2=>cases hb
 rename_i fn hfn
 rw [hfn];simp only
 split at hb
 · cases hb
 ·
  rename_i hn
  rw [hn];simp only
  cases hbd:fn.body with
  | some c=>rw [hbd]at hb;cases hb
  | none =>
   have e:([]++l++[]:List Value)=l:=by simp
   simp only [show(#[]:Array Value).toList=[]from rfl,e,hp,he,hv]
theorem OD.ext2 {x y z:Operand} {args:Array Operand} {ats:Array TypeId} {f:FuncId} {s:ByteArray} {c n:Int} (hx:zd E x=some (.fn f)) (ha:args.toList=[y,z]) (hy:zd E y=some (.str s)) (hz:zd E z=some (.int .u8 c)) (hb:extB P f=true)
  (he:X5H P (callFunc f #[.string s,.int .u8 c])=some (.value (.int .i64 n)))
  (h:OD P ov C ops l ⟨pt C.nt E dst (.int .i64 n),L⟩ q):OD P ov C ops (⟨dst,.call ⟨.value x,args,ats⟩,ty,pos,after,none⟩::l) ⟨E,L⟩ q:=by
 intro g s' a S
 obtain⟨vx,q1,q2⟩:=X0M S hx
 obtain⟨vy,p1,p2⟩:=X0M S hy
 obtain⟨vz,r1,r2⟩:=X0M S hz
 cases q2;cases p2;cases r2
 refine X3t.cons S.kp (fun _ _=>rfl) (X4d.ext rfl q1 (l:=[.string s,.int .u8 c]) (by rw [ha];simp only [X4t,p1,r1]) hb rfl he rfl ?_)
 exact h g _ a (S.put (show DR (MM C.M g) g a (.int .i64 n) (.int .i64 n)from CR.int) dst)
end
end Go.Vai
namespace Go.Vai
noncomputable section
variable {P:Program} {ov:Ov} {C:Cx0} {ops:Array Oper} {dst:Option Nat} {ty:TypeId} {pos:String} {after:Array Edge} {l:List Oper} {E:X19} {L:List Ob} {q:SD→Prop}
theorem XFC {t:TypeId} {ox oy:Operand} {a b:ByteArray} (hs:a.size+b.size≤1000000000):X32 P .add t ox oy (.string a) (.string b)=some (.string (a++b)):=by
 show X9k P .add t ox oy (.string a) (.string b)=_
 unfold X9k
 have hp:X1R P (do eqGuard .add t ox oy (.string a) (.string b);binOp .add t (.string a) (.string b))=some (.string (a++b)):=by
  have h2:X5H P (do eqGuard .add t ox oy (.string a) (.string b);binOp .add t (.string a) (.string b))=some (.string (a++b)):=by
   rw [X0m (a:=()) rfl]
   show X5H P (Op.stringOp .add a b)=_
   unfold Op.stringOp
   have:¬ ((a.size+b.size:Nat):Int)>IntKind.i64.max:=by
    have:IntKind.i64.max=9223372036854775807:=rfl
    rw [this];omega
   simp only [if_neg this];rfl
  unfold X1R;rw [h2];rfl
 simp only [show(X04 (.string a) && X04 (.string b))=true from rfl,hp]
theorem OD.catS {t:TypeId} {x y:Operand} {c:TypeId} {a b:ByteArray} (hx:zd E x=some (.str a)) (hy:zd E y=some (.str b)) (hs:a.size+b.size≤1000000000)
  (h:OD P ov C ops l ⟨pt C.nt E dst (.str (a++b)),L⟩ q):OD P ov C ops (⟨dst,.binOp .add t x y c,ty,pos,after,none⟩::l) ⟨E,L⟩ q:=by
 refine OD.plain (fun g s' a' S=>?_) h
 obtain⟨vx,q1,q2⟩:=X0M S hx
 obtain⟨vy,p1,p2⟩:=X0M S hy
 cases q2;cases p2
 refine⟨.string (a++b),?_,CR.str⟩
 simp only [X0c,q1,p1]
 exact X0O (XFC hs)
def XJ1 (P:Program) (t:TypeId):Bool:=match P.underlying t with
 | some (.slice e)=>match P.underlying e with
  | some (.int .u8)=>true
  | _=>false
 | _=>false
theorem XDJ:∀ xs:List Int,u8s (xs.map (Value.int .u8))=some xs
 | []=>rfl
 | x::xs=>by simp only [List.map_cons,u8s,XDJ xs]
theorem f2_u8 {M:Nat→Prop} {a:AH}:∀ {xs:List Int} {vs:List Value},F2 (CR M a) (xs.map (D.int .u8)) vs→vs=xs.map (Value.int .u8):=by
 intro xs
 induction xs with
 | nil=>intro vs h;cases h;rfl
 | cons x xs ih =>
  intro vs h
  cases h with
  | cons h t=>cases h;rw [ih t];rfl
theorem OD.convBS {src dst':TypeId} {x:Operand} {n:Nat} {ds:List D} {xs:List Int} (hx:zd E x=some (.sl 1 n ds)) (he:ds=xs.map (D.int .u8)) (hn:0<n) (hs:XJ1 P src=true) (hd:X6r P dst'=true)
  (h:OD P ov C ops l ⟨pt C.nt E dst (.str (strOfNums xs)),L⟩ q):OD P ov C ops (⟨dst,.convert src dst' x,ty,pos,after,none⟩::l) ⟨E,L⟩ q:=by
 subst he
 refine OD.plain (fun g s a S=>?_) h
 obtain⟨vx,q1,q2⟩:=X0M S hx
 refine⟨.string (strOfNums xs),?_,CR.str⟩
 have hd':=X4F hd
 unfold XJ1 at hs
 split at hs
 case h_2=>cases hs
 rename_i e hu
 split at hs
 case h_2=>cases hs
 rename_i hu2
 rcases CR.sl_inv (show CR (MM C.M g) a (.sl 1 n (xs.map (D.int .u8))) vx from q2)with⟨rfl,_⟩ | ⟨b,i,c,rfl,hc,hsl⟩
 · omega
 obtain⟨B,g1,g2,g3,g4,g5,g6,g7⟩:=hsl.ex
 obtain⟨new,x1,x2,x3⟩:=X4E (g:=g) (show CR (MM C.M g) a (.sl 1 n (xs.map (D.int .u8))) (.slice (some ⟨b,i,none⟩) n c)from q2)
 have hr:a.rdL b i n=some new:=by
  have h1:X3s a 1 (.slice (some ⟨b,i,none⟩) n c)=match a.rdL b i (n*1)with | some l=>some (n,l) | none=>none:=rfl
  rw [h1,Nat.mul_one]at x1
  cases hq:a.rdL b i n with
  | none=>rw [hq]at x1;cases x1
  | some l2=>rw [hq]at x1;cases x1;rfl
 have hq:X8k P src dst' (.slice (some ⟨b,i,none⟩) n c)=none:=rfl
 simp only [X0c,q1,X3P,hq,hu,hd',hu2,hr,f2_u8 x2,XDJ]
end
end Go.Vai
namespace Go.Vai
noncomputable section
variable {P:Program} {ov:Ov} {C:Cx0}
variable {ops:Array Oper} {dst:Option Nat} {ty:TypeId} {pos:String} {after:Array Edge} {l:List Oper} {E:X19} {L:List Ob} {q:SD→Prop}
section
variable {nt:Nat} {M:Nat→Prop} {a0:AH} {g0:Gh} {bx:Nat→Prop} {b i e n c:Nat} {cs:List D}
theorem XBG.now {σ:SD} {g:Gh} {s:Env} {a:AH} (h:XBG (MM M g0) a0 b i e n cs) (S:SR ⟨nt,M,a0,g0,bx⟩ σ g s a):XBG (MM M g) a b i e n cs:=by
 refine h.mono S.kp (fun k m=>.inr m) fun k hk m=>?_
 rcases m with m | m
 · exact .inl m
 ·
  rcases(S.nm k m).2.2 with q | q
  · exact .inr q
  ·
   have q:a0.next≤k:=q
   omega
end
theorem OD.appC {args:Array Operand} {ats:Array TypeId} {y:Operand} {e m:Nat} {ds:List D} (ha:args.toList=[.const (.slice none 0 0),y]) (ht:Go.Vai.appT P ats=some e) (hy:zd E y=some (.sl e m ds)) (h1:m*e≤100000000) (h2:m≤100000000)
  (h:OD P ov C ops l ⟨pt C.nt E dst (.row L.length 0 m m),L++[.row e m ds]⟩ q):OD P ov C ops (⟨dst,.call ⟨.builtin .append,args,ats⟩,ty,pos,after,none⟩::l) ⟨E,L⟩ q:=by
 refine OD.heap (fun g s a S=>?_) h
 obtain⟨vy,p1,p2⟩:=X0M S hy
 obtain⟨new,x1,x2,x3⟩:=X4E (g:=g) p2
 have hnew:new.length=m*e:=by rw [← x2.length];exact x3
 have hc:zev s (.const (.slice none 0 0))=some (.slice none 0 0):=rfl
 rcases Nat.eq_zero_or_pos m with h0 | h0
 ·
  subst h0
  have hn0:new=[]:=List.length_eq_zero_iff.1 (by omega)
  subst hn0
  have hd0:ds=[]:=List.length_eq_zero_iff.1 (by rw [x2.length];rfl)
  subst hd0
  have hz:X0j a (.slice none 0 0) e 0 0 0 []=some (.slice none 0 0,a):=rfl
  obtain⟨r1,r2⟩:=X3w ht rfl x1 (by simp) (by omega) (by omega) hz
  refine⟨.slice none 0 0,a,g++[none],?_,S.nilRow e,.inl ⟨by rw [← S.len];simp,rfl,rfl,rfl⟩⟩
  simp only [X0c,ha,X4t,hc,p1];exact r1
 ·
  have hz:X0j a (.slice none 0 0) e 0 0 m new=some (.slice (some ⟨a.next,0,none⟩) m m,a.new new e):=by
   have hble:Nat.ble (0+m) 0=false:=by
    cases hb:Nat.ble (0+m) 0 with
    | false=>rfl
    | true=>have:=Nat.le_of_ble_eq_true hb;omega
   simp only [X0j,hble,Nat.beq_refl,XDt]
  obtain⟨r1,r2⟩:=X3w ht rfl x1 hnew (by rw [Nat.zero_add];exact h1) (by omega) hz
  obtain⟨S',r'⟩:=S.newRow (n:=m) (c:=m) x3 x2 (Nat.le_refl _)
  refine⟨_,_,_,?_,S',r'⟩
  simp only [X0c,ha,X4t,hc,p1];exact r1
end
end Go.Vai

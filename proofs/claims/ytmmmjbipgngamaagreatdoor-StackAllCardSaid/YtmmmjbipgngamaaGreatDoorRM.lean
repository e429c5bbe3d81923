/-
  What is proved here: data told in words that say less; bits of integers; a row that grows by data of any length (part RM  remainders of any integers, texts laid end to end (part RQ of the layer for plain data). a row that a call is given, told by its place; loads of its cells that are not ordered with calls; s No conditions but those that the theorems state.
-/
import Derived.Test.YtmmmjbipgngamaaGreatDoorRJ
set_option linter.unusedVariables false
set_option linter.unusedSimpArgs false
namespace Go.Vai
noncomputable section
variable {P:Program} {ov:Ov} {C:Cx0} {ops:Array Oper} {dst:Option Nat} {ty:TypeId} {pos:String} {after:Array Edge} {l:List Oper} {E:X0m} {L:List Ob} {q:SD→Prop}
theorem OD.imp (t:Nat) {d d':D} (hl:lk E t=some d) (k:∀ M g a v,DR M g a d v→DR M g a d' v) (h:OD P ov C ops l ⟨setv t d' E,L⟩ q):OD P ov C ops l ⟨E,L⟩ q :=
 fun g s a S=>h g s a (S.setv (k _ _ _ _ (S.env t d hl)))
theorem CD.imp {c:Code} {Q:X4E} (t:Nat) {d d':D} (hl:lk E t=some d) (k:∀ M g a v,DR M g a d v→DR M g a d' v) (h:CD P ov C c ⟨setv t d' E,L⟩ Q):CD P ov C c ⟨E,L⟩ Q :=
 fun g s a S=>h g s a (S.setv (k _ _ _ _ (S.env t d hl)))
theorem OD.bit {op:BinOp} {t:TypeId} {x y:Operand} {c:TypeId} {k k':IntKind} {a b z:Int} (hx:zd E x=some (.int k a)) (hy:zd E y=some (.int k' b)) (hq:XA3 op (.int k a) (.int k' b)=some (.int k z))
  (h:OD P ov C ops l ⟨pt C.nt E dst (.int k z),L⟩ q):OD P ov C ops (⟨dst,.binOp op t x y c,ty,pos,after,none⟩::l) ⟨E,L⟩ q:=by
 refine OD.plain (fun g s' a S=>?_) h
 obtain⟨vx,q1,q2⟩:=X0C S hx
 obtain⟨vy,p1,p2⟩:=X0C S hy
 cases q2;cases p2
 refine⟨_,?_,CR.int⟩
 simp only [X0P,q1,p1]
 refine X0E ?_
 unfold X2b;rw [hq]
theorem OD.appN {args:Array Operand} {ats:Array TypeId} {x y:Operand} {j e:Nat} {cs:List D} (ha:args.toList=[x,y]) (ht:Go.Vai.X8m P ats=some e) (hx:zd E x=some (.row j 0 0 0)) (hL:L[j]?=some (.row e 0 cs)) (hy:zd E y=some (.sl e 0 []))
  (h:OD P ov C ops l ⟨pt C.nt (X3a j E) dst (.row j 0 0 0),X37 j (L.set j (.row e 0 cs))⟩ q):OD P ov C ops (⟨dst,.call ⟨.builtin .append,args,ats⟩,ty,pos,after,none⟩::l) ⟨E,L⟩ q:=by
 refine OD.heap (fun g s a S=>?_) h
 obtain⟨vx,q1,q2⟩:=X0C S hx
 obtain⟨vy,p1,p2⟩:=X0C S hy
 obtain⟨new,x1,x2,x3⟩:=X3z (g:=g) p2
 cases x2
 have hjL:=(List.getElem?_eq_some_iff.1 hL).1
 have hj:j<g.length:=by have:g.length=L.length:=S.len;omega
 have hg:g[j]?=some g[j]:=List.getElem?_eq_getElem hj
 have O0:=S.obj j _ _ hg hL
 obtain⟨hlen,O⟩:=O0
 rcases q2 with⟨e1,_,_,rfl⟩ | ⟨b,k,e1,rfl⟩
 ·
  have hz:X0S a (.slice none 0 0) e 0 0 0 []=some (.slice none 0 0,a):=rfl
  obtain⟨r1,r2⟩:=X2k ht rfl x1 (by simp) (by omega) (by omega) hz
  have hset:g.set j none=g:=by
   refine List.ext_getElem? fun i=>?_
   by_cases hi:i=j
   · subst hi;rw [List.getElem?_set_self hj,e1]
   · rw [List.getElem?_set_ne (fun q=>hi q.symm)]
  refine⟨.slice none 0 0,a,g,?_,?_,.inl ⟨e1,rfl,rfl,rfl⟩⟩
  · simp only [X0P,ha,X3i,q1,p1];exact r1
  ·
   have:=S.relay (j:=j) (x':=none) (o':=.row e 0 cs) (X1C.refl (fun _=>False) a) (fun _ f=>f.elim) S.ok hj (fun b k e=>by cases e) ⟨hlen,.inl ⟨rfl,rfl⟩⟩ (fun cs e=>by cases e)
   rw [hset]at this
   exact this
 rcases O with⟨o1,_⟩ | ⟨b',k',vs,o1,o2,o3⟩
 · rw [hg,o1]at e1;cases e1
 rw [hg,o1]at e1;cases e1
 have hz:X0S a (.slice (some ⟨b,0,none⟩) 0 0) e 0 0 0 []=some (.slice (some ⟨b,0,none⟩) 0 0,{ a with blk:=X14 a.blk b ⟨over vs 0 [],k,true,e⟩ none }):=by
  simp only [X0S,show Nat.ble (0+0) 0=true from rfl,o2,Nat.beq_refl,Nat.zero_add,Nat.zero_mul,AH.wrL,List.length_nil,Nat.zero_le,and_self,if_true]
 obtain⟨r1,r2⟩:=X2k ht rfl x1 (by simp) (by omega) (by omega) hz
 have K:=X25 (B':=⟨over vs 0 [],k,true,e⟩) o2 rfl
 have hk:k∈g.cls:=Gh.mem_cls.2 ⟨j,b,by rw [hg,o1]⟩
 have hset:g.set j (some (b,k))=g:=by
  refine List.ext_getElem? fun i=>?_
  by_cases hi:i=j
  · subst hi;rw [List.getElem?_set_self hj,hg,o1]
  · rw [List.getElem?_set_ne (fun q=>hi q.symm)]
 refine⟨.slice (some ⟨b,0,none⟩) 0 0,{ a with blk:=X14 a.blk b ⟨over vs 0 [],k,true,e⟩ none },g,?_,?_,.inr ⟨b,k,by rw [hg,o1],rfl⟩⟩
 · simp only [X0P,ha,X3i,q1,p1];exact r1
 ·
  have:=S.relay (j:=j) (x':=some (b,k)) (o':=.row e 0 cs) K (fun x w=>⟨b,by have w:x=k:=w;subst w;rw [hg,o1]⟩) (X6r S.ok o2 rfl) hj (fun b' k' e=>by cases e;exact .inl ⟨b,by rw [hg,o1]⟩)
   (by
    rw [hset]
    refine⟨hlen,.inr ⟨b,k,_,rfl,X2V,?_⟩⟩
    have R:F2 (CR (MM C.M g) a) cs (over vs 0 []):=by
     have:over vs 0 []=vs:=by simp [over]
     rw [this];exact o3
    refine R.mono fun d v r=>r.mono K (fun x w=>?_) (fun _ _ m=>m)
    have w:x=k:=w
    subst w;exact .inr hk)
   (fun cs e=>by cases e)
  rw [hset]at this
  exact this
end
end Go.Vai
namespace Go.Vai
noncomputable section
variable {P:Program} {ov:Ov} {C:Cx0} {ops:Array Oper} {dst:Option Nat} {ty:TypeId} {pos:String} {after:Array Edge} {l:List Oper} {E:X0m} {L:List Ob} {q:SD→Prop}
theorem XDX {t:TypeId} {ox oy:Operand} {a b:ByteArray} (hs:a.size+b.size≤1000000000):X2b P .add t ox oy (.string a) (.string b)=some (.string (a++b)):=by
 show X4K P .add t ox oy (.string a) (.string b)=_
 unfold X4K
 have hp:X1B P (do eqGuard .add t ox oy (.string a) (.string b);binOp .add t (.string a) (.string b))=some (.string (a++b)):=by
  have h2:X6O P (do eqGuard .add t ox oy (.string a) (.string b);binOp .add t (.string a) (.string b))=some (.string (a++b)):=by
   rw [X0e (a:=()) rfl]
   show X6O P (Op.stringOp .add a b)=_
   unfold Op.stringOp
   have:¬ ((a.size+b.size:Nat):Int)>IntKind.i64.max:=by
    have:IntKind.i64.max=9223372036854775807:=rfl
    rw [this];omega
   simp only [if_neg this];rfl
  unfold X1B;rw [h2];rfl
 simp only [show(X01 (.string a) && X01 (.string b))=true from rfl,hp]
theorem OD.catS {t:TypeId} {x y:Operand} {c:TypeId} {a b:ByteArray} (hx:zd E x=some (.str a)) (hy:zd E y=some (.str b)) (hs:a.size+b.size≤1000000000)
  (h:OD P ov C ops l ⟨pt C.nt E dst (.str (a++b)),L⟩ q):OD P ov C ops (⟨dst,.binOp .add t x y c,ty,pos,after,none⟩::l) ⟨E,L⟩ q:=by
 refine OD.plain (fun g s' a' S=>?_) h
 obtain⟨vx,q1,q2⟩:=X0C S hx
 obtain⟨vy,p1,p2⟩:=X0C S hy
 cases q2;cases p2
 refine⟨.string (a++b),?_,CR.str⟩
 simp only [X0P,q1,p1]
 exact X0E (XDX hs)
def XGk (P:Program) (t:TypeId):Bool:=match P.underlying t with
 | some (.slice e)=>match P.underlying e with
  | some (.int .u8)=>true
  | _=>false
 | _=>false
theorem XBi:∀ xs:List Int,u8s (xs.map (Value.int .u8))=some xs
 | []=>rfl
 | x::xs=>by simp only [List.map_cons,u8s,XBi xs]
theorem f2_u8 {M:Nat→Prop} {a:AH}:∀ {xs:List Int} {vs:List Value},F2 (CR M a) (xs.map (D.int .u8)) vs→vs=xs.map (Value.int .u8):=by
 intro xs
 induction xs with
 | nil=>intro vs h;cases h;rfl
 | cons x xs ih =>
  intro vs h
  cases h with
  | cons h t=>cases h;rw [ih t];rfl
theorem OD.convBS {src dst':TypeId} {x:Operand} {n:Nat} {ds:List D} {xs:List Int} (hx:zd E x=some (.sl 1 n ds)) (he:ds=xs.map (D.int .u8)) (hn:0<n) (hs:XGk P src=true) (hd:X7f P dst'=true)
  (h:OD P ov C ops l ⟨pt C.nt E dst (.str (strOfNums xs)),L⟩ q):OD P ov C ops (⟨dst,.convert src dst' x,ty,pos,after,none⟩::l) ⟨E,L⟩ q:=by
 subst he
 refine OD.plain (fun g s a S=>?_) h
 obtain⟨vx,q1,q2⟩:=X0C S hx
 refine⟨.string (strOfNums xs),?_,CR.str⟩
 have hd':=X5H hd
 unfold XGk at hs
 split at hs
 case h_2=>cases hs
 rename_i e hu
 split at hs
 case h_2=>cases hs
 rename_i hu2
 rcases CR.sl_inv (show CR (MM C.M g) a (.sl 1 n (xs.map (D.int .u8))) vx from q2)with⟨rfl,_⟩ | ⟨b,i,c,rfl,hc,hsl⟩
 · omega
 obtain⟨B,g1,g2,g3,g4,g5,g6,g7⟩:=hsl.ex
 obtain⟨new,x1,x2,x3⟩:=X3z (g:=g) (show CR (MM C.M g) a (.sl 1 n (xs.map (D.int .u8))) (.slice (some ⟨b,i,none⟩) n c)from q2)
 have hr:a.rdL b i n=some new:=by
  have h1:X2B a 1 (.slice (some ⟨b,i,none⟩) n c)=match a.rdL b i (n*1)with | some l=>some (n,l) | none=>none:=rfl
  rw [h1,Nat.mul_one]at x1
  cases hq:a.rdL b i n with
  | none=>rw [hq]at x1;cases x1
  | some l2=>rw [hq]at x1;cases x1;rfl
 have hq:XAm P src dst' (.slice (some ⟨b,i,none⟩) n c)=none:=rfl
 simp only [X0P,q1,X3u,hq,hu,hd',hu2,hr,f2_u8 x2,XBi]
end
end Go.Vai
namespace Go.Vai
noncomputable section
variable {P:Program} {ov:Ov} {C:Cx0}
variable {ops:Array Oper} {dst:Option Nat} {ty:TypeId} {pos:String} {after:Array Edge} {l:List Oper} {E:X0m} {L:List Ob} {q:SD→Prop}
def X49 (b i n c:Nat):D:=.lit (.slice (some ⟨b,i,none⟩) n c)
section
variable {nt:Nat} {M:Nat→Prop} {a0:AH} {g0:Gh} {bx:Nat→Prop} {b i e n c:Nat} {cs:List D}
theorem X4U.now {σ:SD} {g:Gh} {s:Env} {a:AH} (h:X4U (MM M g0) a0 b i e n cs) (S:SR ⟨nt,M,a0,g0,bx⟩ σ g s a):X4U (MM M g) a b i e n cs:=by
 refine h.mono S.kp (fun k m=>.inr m) fun k hk m=>?_
 rcases m with m | m
 · exact .inl m
 ·
  rcases(S.nm k m).2.2 with q | q
  · exact .inr q
  ·
   have q:a0.next≤k:=q
   omega
theorem OD.fadL {t:TypeId} {x:Operand} {f o o1 b':Nat} {x':Option Nat} (hx:zd E x=some (X0s b (i+o))) (hf:X0Z P t (.pointer (some ⟨0,0,none⟩)) f=some (.pointer (some ⟨b',o1,x'⟩)))
  (h:OD P ov C ops l ⟨pt C.nt E dst (X0s b (i+(o+o1))),L⟩ q):OD P ov C ops (⟨dst,.fieldAddr t x f,ty,pos,after,none⟩::l) ⟨E,L⟩ q:=by
 refine OD.plain (fun g s a S=>?_) h
 obtain⟨vx,q1,q2⟩:=X0C S hx
 have q2:=X1i q2
 subst q2
 refine⟨.pointer (some ⟨b,i+(o+o1),none⟩),?_,.lit rfl⟩
 simp only [X0P,q1]
 refine X0E ?_
 have:=X3d (b:=b) (i:=i+o) hf
 rw [← Nat.add_assoc]
 exact this
end
theorem OD.appC {args:Array Operand} {ats:Array TypeId} {y:Operand} {e m:Nat} {ds:List D} (ha:args.toList=[.const (.slice none 0 0),y]) (ht:Go.Vai.X8m P ats=some e) (hy:zd E y=some (.sl e m ds)) (h1:m*e≤100000000) (h2:m≤100000000)
  (h:OD P ov C ops l ⟨pt C.nt E dst (.row L.length 0 m m),L++[.row e m ds]⟩ q):OD P ov C ops (⟨dst,.call ⟨.builtin .append,args,ats⟩,ty,pos,after,none⟩::l) ⟨E,L⟩ q:=by
 refine OD.heap (fun g s a S=>?_) h
 obtain⟨vy,p1,p2⟩:=X0C S hy
 obtain⟨new,x1,x2,x3⟩:=X3z (g:=g) p2
 have hnew:new.length=m*e:=by rw [← x2.length];exact x3
 have hc:zev s (.const (.slice none 0 0))=some (.slice none 0 0):=rfl
 rcases Nat.eq_zero_or_pos m with h0 | h0
 ·
  subst h0
  have hn0:new=[]:=List.length_eq_zero_iff.1 (by omega)
  subst hn0
  have hd0:ds=[]:=List.length_eq_zero_iff.1 (by rw [x2.length];rfl)
  subst hd0
  have hz:X0S a (.slice none 0 0) e 0 0 0 []=some (.slice none 0 0,a):=rfl
  obtain⟨r1,r2⟩:=X2k ht rfl x1 (by simp) (by omega) (by omega) hz
  refine⟨.slice none 0 0,a,g++[none],?_,S.nilRow e,.inl ⟨by rw [← S.len];simp,rfl,rfl,rfl⟩⟩
  simp only [X0P,ha,X3i,hc,p1];exact r1
 ·
  have hz:X0S a (.slice none 0 0) e 0 0 m new=some (.slice (some ⟨a.next,0,none⟩) m m,a.new new e):=by
   have hble:Nat.ble (0+m) 0=false:=by
    cases hb:Nat.ble (0+m) 0 with
    | false=>rfl
    | true=>have:=Nat.le_of_ble_eq_true hb;omega
   simp only [X0S,hble,Nat.beq_refl,XBC]
  obtain⟨r1,r2⟩:=X2k ht rfl x1 hnew (by rw [Nat.zero_add];exact h1) (by omega) hz
  obtain⟨S',r'⟩:=S.newRow (n:=m) (c:=m) x3 x2 (Nat.le_refl _)
  refine⟨_,_,_,?_,S',r'⟩
  simp only [X0P,ha,X3i,hc,p1];exact r1
end
end Go.Vai

/-
  What is proved here: data told in words that say less; bits of integers; a row that grows by data of any length (part RM  remainders of any integers, texts laid end to end (part RQ of the layer for plain data). a row that a call is given, told by its place; loads of its cells that are not ordered with calls; s No conditions but those that the theorems state.
-/
import Derived.Test.YtmmmjbipgngamaaGreatDoorRJ
set_option linter.unusedVariables false
set_option linter.unusedSimpArgs false
namespace Go.Vai
noncomputable section
variable {P:Program} {ov:Ov} {C:Cx0} {ops:Array Oper} {dst:Option Nat} {ty:TypeId} {pos:String} {after:Array Edge} {l:List Oper} {E:X0g} {L:List Ob} {q:SD→Prop}
theorem OD.bit {op:BinOp} {t:TypeId} {x y:Operand} {c:TypeId} {k k':IntKind} {a b z:Int} (hx:zd E x=some (.int k a)) (hy:zd E y=some (.int k' b)) (hq:X6l op (.int k a) (.int k' b)=some (.int k z))
  (h:OD P ov C ops l ⟨pt C.nt E dst (.int k z),L⟩ q):OD P ov C ops (⟨dst,.binOp op t x y c,ty,pos,after,none⟩::l) ⟨E,L⟩ q:=by
 refine OD.plain (fun g s' a S=>?_) h
 obtain⟨vx,q1,q2⟩:=X0A S hx
 obtain⟨vy,p1,p2⟩:=X0A S hy
 cases q2;cases p2
 refine⟨_,?_,CR.int⟩
 simp only [X0K,q1,p1]
 refine X07 ?_
 unfold X1m;rw [hq]
end
end Go.Vai
namespace Go.Vai
noncomputable section
variable {P:Program} {ov:Ov} {C:Cx0} {ops:Array Oper} {dst:Option Nat} {ty:TypeId} {pos:String} {after:Array Edge} {l:List Oper} {E:X0g} {L:List Ob} {q:SD→Prop}
theorem XAT {t:TypeId} {ox oy:Operand} {a:Int} {n:Nat} (hn:0<n):X1m P .rem t ox oy (.int .i64 a) (.int .i64 (n:Int))=some (.int .i64 (a.tmod n)):=by
 have e1:Nat.blt 0 n=true:=by simpa using hn
 have e0:¬ (n:Int)=0:=by omega
 cases a with
 | ofNat m =>
  have:X6l .rem (.int .i64 (Int.ofNat m)) (.int .i64 (n:Int))=some (.int .i64 (Int.ofNat (Nat.mod m n))):=by
   show(match kEq .i64 .i64 with | true=>XBM .rem .i64 (Int.ofNat m) (Int.ofNat n) | false=>none)=_
   simp only [show kEq .i64 .i64=true from rfl,XBM,XCq,e1]
  unfold X1m;rw [this];rfl
 | negSucc m =>
  have:X6l .rem (.int .i64 (Int.negSucc m)) (.int .i64 (n:Int))=none:=rfl
  unfold X1m;rw [this]
  show X2q P .rem t ox oy (.int .i64 (Int.negSucc m)) (.int .i64 (n:Int))=_
  unfold X2q
  have hp:X0v P (do eqGuard .rem t ox oy (.int .i64 (Int.negSucc m)) (.int .i64 (n:Int));binOp .rem t (.int .i64 (Int.negSucc m)) (.int .i64 (n:Int)))=some (.int .i64 ((Int.negSucc m).tmod n)):=by
   have h2:X6k P (do eqGuard .rem t ox oy (.int .i64 (Int.negSucc m)) (.int .i64 (n:Int));binOp .rem t (.int .i64 (Int.negSucc m)) (.int .i64 (n:Int)))=some (.int .i64 ((Int.negSucc m).tmod n)):=by
    rw [X34 (a:=()) rfl]
    show X6k P (Op.intDiv .rem .i64 (Int.negSucc m) (n:Int))=_
    unfold Op.intDiv;rw [if_neg e0];rfl
   unfold X0v;rw [h2];rfl
  simp only [show(X01 (.int .i64 (Int.negSucc m)) && X01 (.int .i64 (n:Int)))=true from rfl,hp]
theorem OD.remZ {t:TypeId} {x y:Operand} {c:TypeId} {a:Int} {n:Nat} (hx:zd E x=some (.int .i64 a)) (hy:zd E y=some (.int .i64 (n:Int))) (hn:0<n)
  (h:OD P ov C ops l ⟨pt C.nt E dst (.int .i64 (a.tmod n)),L⟩ q):OD P ov C ops (⟨dst,.binOp .rem t x y c,ty,pos,after,none⟩::l) ⟨E,L⟩ q:=by
 refine OD.plain (fun g s' a' S=>?_) h
 obtain⟨vx,q1,q2⟩:=X0A S hx
 obtain⟨vy,p1,p2⟩:=X0A S hy
 cases q2;cases p2
 refine⟨_,?_,CR.int⟩
 simp only [X0K,q1,p1]
 exact X07 (XAT hn)
theorem XAU {t:TypeId} {ox oy:Operand} {a b:ByteArray} (hs:a.size+b.size≤1000000000):X1m P .add t ox oy (.string a) (.string b)=some (.string (a++b)):=by
 show X2q P .add t ox oy (.string a) (.string b)=_
 unfold X2q
 have hp:X0v P (do eqGuard .add t ox oy (.string a) (.string b);binOp .add t (.string a) (.string b))=some (.string (a++b)):=by
  have h2:X6k P (do eqGuard .add t ox oy (.string a) (.string b);binOp .add t (.string a) (.string b))=some (.string (a++b)):=by
   rw [X34 (a:=()) rfl]
   show X6k P (Op.stringOp .add a b)=_
   unfold Op.stringOp
   have:¬ ((a.size+b.size:Nat):Int)>IntKind.i64.max:=by
    have:IntKind.i64.max=9223372036854775807:=rfl
    rw [this];omega
   simp only [if_neg this];rfl
  unfold X0v;rw [h2];rfl
 simp only [show(X01 (.string a) && X01 (.string b))=true from rfl,hp]
theorem OD.catS {t:TypeId} {x y:Operand} {c:TypeId} {a b:ByteArray} (hx:zd E x=some (.str a)) (hy:zd E y=some (.str b)) (hs:a.size+b.size≤1000000000)
  (h:OD P ov C ops l ⟨pt C.nt E dst (.str (a++b)),L⟩ q):OD P ov C ops (⟨dst,.binOp .add t x y c,ty,pos,after,none⟩::l) ⟨E,L⟩ q:=by
 refine OD.plain (fun g s' a' S=>?_) h
 obtain⟨vx,q1,q2⟩:=X0A S hx
 obtain⟨vy,p1,p2⟩:=X0A S hy
 cases q2;cases p2
 refine⟨.string (a++b),?_,CR.str⟩
 simp only [X0K,q1,p1]
 exact X07 (XAU hs)
theorem X7d {z:Int} {n:Nat} (hn:0<n):((z.tmod n+n).tmod n)=((z % (n:Int)).toNat:Int):=by
 have h1:0≤z % (n:Int):=Int.emod_nonneg z (by omega)
 have h2:z % (n:Int)<n:=Int.emod_lt_of_pos z (by omega)
 have h3 : -(n:Int)<z.tmod n:=by
  have:=Int.lt_tmod_of_pos z (b:=(n:Int)) (by omega);omega
 have h4:0≤z.tmod n+n:=by omega
 rw [Int.tmod_eq_emod_of_nonneg h4]
 have h5:(z.tmod n+n) % (n:Int)=z % n:=by
  rw [Int.add_emod_right]
  have:=Int.mul_tdiv_add_tmod z n
  conv=>rhs;rw [← this]
  rw [Int.mul_add_emod_self_left]
 rw [h5]
 show z % n=((z % n).toNat:Int)
 omega
def XD7 (P:Program) (t:TypeId):Bool:=match P.underlying t with
 | some (.slice e)=>match P.underlying e with
  | some (.int .u8)=>true
  | _=>false
 | _=>false
theorem X9E:∀ xs:List Int,u8s (xs.map (Value.int .u8))=some xs
 | []=>rfl
 | x::xs=>by simp only [List.map_cons,u8s,X9E xs]
theorem f2_u8 {M:Nat→Prop} {a:AH}:∀ {xs:List Int} {vs:List Value},F2 (CR M a) (xs.map (D.int .u8)) vs→vs=xs.map (Value.int .u8):=by
 intro xs
 induction xs with
 | nil=>intro vs h;cases h;rfl
 | cons x xs ih =>
  intro vs h
  cases h with
  | cons h t=>cases h;rw [ih t];rfl
theorem OD.convBS {src dst':TypeId} {x:Operand} {n:Nat} {ds:List D} {xs:List Int} (hx:zd E x=some (.sl 1 n ds)) (he:ds=xs.map (D.int .u8)) (hn:0<n) (hs:XD7 P src=true) (hd:X9C P dst'=true)
  (h:OD P ov C ops l ⟨pt C.nt E dst (.str (strOfNums xs)),L⟩ q):OD P ov C ops (⟨dst,.convert src dst' x,ty,pos,after,none⟩::l) ⟨E,L⟩ q:=by
 subst he
 refine OD.plain (fun g s a S=>?_) h
 obtain⟨vx,q1,q2⟩:=X0A S hx
 refine⟨.string (strOfNums xs),?_,CR.str⟩
 have hd':=X9D hd
 unfold XD7 at hs
 split at hs
 case h_2=>cases hs
 rename_i e hu
 split at hs
 case h_2=>cases hs
 rename_i hu2
 rcases CR.sl_inv (show CR (MM C.M g) a (.sl 1 n (xs.map (D.int .u8))) vx from q2)with⟨rfl,_⟩ | ⟨b,i,c,rfl,hc,hsl⟩
 · omega
 obtain⟨B,g1,g2,g3,g4,g5,g6,g7⟩:=hsl.ex
 obtain⟨new,x1,x2,x3⟩:=X7c (g:=g) (show CR (MM C.M g) a (.sl 1 n (xs.map (D.int .u8))) (.slice (some ⟨b,i,none⟩) n c)from q2)
 have hr:a.rdL b i n=some new:=by
  have h1:X1d a 1 (.slice (some ⟨b,i,none⟩) n c)=match a.rdL b i (n*1)with | some l=>some (n,l) | none=>none:=rfl
  rw [h1,Nat.mul_one]at x1
  cases hq:a.rdL b i n with
  | none=>rw [hq]at x1;cases x1
  | some l2=>rw [hq]at x1;cases x1;rfl
 have hq:X8N P src dst' (.slice (some ⟨b,i,none⟩) n c)=none:=rfl
 simp only [X0K,q1,X2x,hq,hu,hd',hu2,hr,f2_u8 x2,X9E]
end
end Go.Vai
namespace Go.Vai
noncomputable section
variable {P:Program} {ov:Ov} {C:Cx0}
variable {ops:Array Oper} {dst:Option Nat} {ty:TypeId} {pos:String} {after:Array Edge} {l:List Oper} {E:X0g} {L:List Ob} {q:SD→Prop}
def X54 (b i n c:Nat):D:=.lit (.slice (some ⟨b,i,none⟩) n c)
section
variable {nt:Nat} {M:Nat→Prop} {a0:AH} {g0:Gh} {bx:Nat→Prop} {b i e n c:Nat} {cs:List D}
theorem X5R.now {σ:SD} {g:Gh} {s:Env} {a:AH} (h:X5R (MM M g0) a0 b i e n cs) (S:SR ⟨nt,M,a0,g0,bx⟩ σ g s a):X5R (MM M g) a b i e n cs:=by
 refine h.mono S.kp (fun k m=>.inr m) fun k hk m=>?_
 rcases m with m | m
 · exact .inl m
 ·
  rcases(S.nm k m).2.2 with q | q
  · exact .inr q
  ·
   have q:a0.next≤k:=q
   omega
theorem OD.idxL {t:TypeId} {x y:Operand} {k:IntKind} {z:Int} (hx:zd E x=some (X54 b i n c)) (hy:zd E y=some (.int k z)) (ht:X33 P t=some e) (h0:0≤z) (h1:z<n)
  (h:OD P ov C ops l ⟨pt C.nt E dst (X2G b (i+z.toNat*e)),L⟩ q):OD P ov C ops (⟨dst,.indexAddr t x y,ty,pos,after,none⟩::l) ⟨E,L⟩ q:=by
 refine OD.plain (fun g s a S=>?_) h
 obtain⟨elem,hu,hs⟩:=X1t ht
 obtain⟨vx,q1,q2⟩:=X0A S hx
 obtain⟨vy,p1,p2⟩:=X0A S hy
 cases p2
 have q2:=X1R q2
 subst q2
 refine⟨.pointer (some ⟨b,i+z.toNat*e,none⟩),?_,.lit rfl⟩
 simp only [X0K,q1,p1]
 refine X07 ?_
 simp only [X15,hu,hs,decide_eq_true h0,decide_eq_true h1,Bool.and_self]
theorem OD.fadL {t:TypeId} {x:Operand} {f o o1 b':Nat} {x':Option Nat} (hx:zd E x=some (X2G b (i+o))) (hf:X0Q P t (.pointer (some ⟨0,0,none⟩)) f=some (.pointer (some ⟨b',o1,x'⟩)))
  (h:OD P ov C ops l ⟨pt C.nt E dst (X2G b (i+(o+o1))),L⟩ q):OD P ov C ops (⟨dst,.fieldAddr t x f,ty,pos,after,none⟩::l) ⟨E,L⟩ q:=by
 refine OD.plain (fun g s a S=>?_) h
 obtain⟨vx,q1,q2⟩:=X0A S hx
 have q2:=X1R q2
 subst q2
 refine⟨.pointer (some ⟨b,i+(o+o1),none⟩),?_,.lit rfl⟩
 simp only [X0K,q1]
 refine X07 ?_
 have:=X2j (b:=b) (i:=i+o) hf
 rw [← Nat.add_assoc]
 exact this
theorem OD.ldSL {t:TypeId} {x:Operand} {o:Nat} {d:D} (hsl:X5R (MM M g0) a0 b i e n cs) (hx:zd E x=some (X2G b (i+o))) (ha:X1w P t=some false) (hd:cs[o]?=some d)
  (h:OD P ov ⟨nt,M,a0,g0,bx⟩ ops l ⟨pt nt E dst d,L⟩ q):OD P ov ⟨nt,M,a0,g0,bx⟩ ops (⟨dst,.load t x,ty,pos,after,none⟩::l) ⟨E,L⟩ q:=by
 refine OD.plain (fun g s a S=>?_) h
 obtain⟨vx,q1,q2⟩:=X0A S hx
 have q2:=X1R q2
 subst q2
 obtain⟨B,h1,h2,h3,h4,h5,h6,h7⟩:=(X5R.now hsl S).ex
 obtain⟨u,r1,r2⟩:=h7 _ _ hd
 refine⟨u,?_,r2.dl.dr⟩
 simp only [X0K,q1]
 refine X07 ?_
 simp only [X2o,ha]
 rw [XA9 h1,← r1]
def FrzS (P:Program) (ops:Array Oper) (b i e n:Nat) (E:X0g):List Nat→Prop
 | []=>True
 | k::l=>(∃ t x,XBD ops k=some (t,x)∧(lk E x=some (.tup [])∨∃ o,lk E x=some (X2G b (i+o))∧((X1w P t=some true∧∃ m,sz P t=some m∧o+m≤n*e)∨(X1w P t=some false∧o<n*e))))∧FrzS P ops b i e n E l
theorem XCC {σ:SD} {g:Gh} {s:Env} {a:AH} (hsl:X5R (MM M g0) a0 b i e n cs) (S:SR ⟨nt,M,a0,g0,bx⟩ σ g s a):∀ {fz:List Nat},FrzS P ops b i e n σ.E fz→Frz P ops (fun a'=>X12 (·∈g0.cls) a0 a') fz s:=by
 intro fz
 induction fz with
 | nil=>intro _ y hy;cases hy
 | cons y l ih =>
  intro hf z hz t x eq
  obtain⟨⟨t',x',f1,f2⟩,f3⟩:=hf
  rcases List.mem_cons.1 hz with rfl | hz
  ·
   rw [f1]at eq;cases eq
   rcases f2 with f2 | ⟨o,f2,f4⟩
   ·
    left
    obtain⟨vs,e1,e2⟩:=S.env _ _ f2
    cases e2
    exact e1
   ·
    right
    have hv:=X1R (S.env _ _ f2)
    obtain⟨B,h1,h2,h3,h4,h5,h6,h7⟩:=hsl.ex
    have hk:B.k ∉ g0.cls:=fun hm=>h2 (.inr hm)
    rcases f4 with⟨ha,m,hs,hm⟩ | ⟨ha,ho⟩
    ·
     refine⟨.agg ((B.l.drop (i+o)).take m).toArray,fun a' K=>?_⟩
     rw [hv]
     simp only [X2o,ha,hs]
     rw [X40 (K.blk _ _ h1 hk) (by omega)]
    ·
     refine⟨B.l[i+o]'(by omega),fun a' K=>?_⟩
     rw [hv]
     simp only [X2o,ha]
     rw [XA9 (K.blk _ _ h1 hk)]
     exact List.getElem?_eq_getElem _
  · exact ih f3 z hz t x eq
end
end
end Go.Vai

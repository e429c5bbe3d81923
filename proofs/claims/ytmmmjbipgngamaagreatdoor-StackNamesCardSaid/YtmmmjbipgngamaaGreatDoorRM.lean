/-
  What is proved here: data told in words that say less; bits of integers; a row that grows by data of any length (part RM  remainders of any integers, texts laid end to end (part RQ of the layer for plain data). a row that a call is given, told by its place; loads of its cells that are not ordered with calls; s No conditions but those that the theorems state.
-/
import Derived.Test.YtmmmjbipgngamaaGreatDoorRJ
set_option linter.unusedVariables false
set_option linter.unusedSimpArgs false
namespace Go.Vai
noncomputable section
variable {P:Program} {ov:Ov} {C:Cx0} {ops:Array Oper} {dst:Option Nat} {ty:TypeId} {pos:String} {after:Array Edge} {l:List Oper} {E:X0j} {L:List Ob} {q:SD→Prop}
theorem OD.bit {op:BinOp} {t:TypeId} {x y:Operand} {c:TypeId} {k k':IntKind} {a b z:Int} (hx:zd E x=some (.int k a)) (hy:zd E y=some (.int k' b)) (hq:X70 op (.int k a) (.int k' b)=some (.int k z))
  (h:OD P ov C ops l ⟨pt C.nt E dst (.int k z),L⟩ q):OD P ov C ops (⟨dst,.binOp op t x y c,ty,pos,after,none⟩::l) ⟨E,L⟩ q:=by
 refine OD.plain (fun g s' a S=>?_) h
 obtain⟨vx,q1,q2⟩:=X09 S hx
 obtain⟨vy,p1,p2⟩:=X09 S hy
 cases q2;cases p2
 refine⟨_,?_,CR.int⟩
 simp only [X0K,q1,p1]
 refine X08 ?_
 unfold X1q;rw [hq]
end
end Go.Vai
namespace Go.Vai
noncomputable section
variable {P:Program} {ov:Ov} {C:Cx0} {ops:Array Oper} {dst:Option Nat} {ty:TypeId} {pos:String} {after:Array Edge} {l:List Oper} {E:X0j} {L:List Ob} {q:SD→Prop}
theorem XAu {t:TypeId} {ox oy:Operand} {a:Int} {n:Nat} (hn:0<n):X1q P .rem t ox oy (.int .i64 a) (.int .i64 (n:Int))=some (.int .i64 (a.tmod n)):=by
 have e1:Nat.blt 0 n=true:=by simpa using hn
 have e0:¬ (n:Int)=0:=by omega
 cases a with
 | ofNat m =>
  have:X70 .rem (.int .i64 (Int.ofNat m)) (.int .i64 (n:Int))=some (.int .i64 (Int.ofNat (Nat.mod m n))):=by
   show(match kEq .i64 .i64 with | true=>XBn .rem .i64 (Int.ofNat m) (Int.ofNat n) | false=>none)=_
   simp only [show kEq .i64 .i64=true from rfl,XBn,XDI,e1]
  unfold X1q;rw [this];rfl
 | negSucc m =>
  have:X70 .rem (.int .i64 (Int.negSucc m)) (.int .i64 (n:Int))=none:=rfl
  unfold X1q;rw [this]
  show X2y P .rem t ox oy (.int .i64 (Int.negSucc m)) (.int .i64 (n:Int))=_
  unfold X2y
  have hp:X0p P (do eqGuard .rem t ox oy (.int .i64 (Int.negSucc m)) (.int .i64 (n:Int));binOp .rem t (.int .i64 (Int.negSucc m)) (.int .i64 (n:Int)))=some (.int .i64 ((Int.negSucc m).tmod n)):=by
   have h2:X4u P (do eqGuard .rem t ox oy (.int .i64 (Int.negSucc m)) (.int .i64 (n:Int));binOp .rem t (.int .i64 (Int.negSucc m)) (.int .i64 (n:Int)))=some (.int .i64 ((Int.negSucc m).tmod n)):=by
    rw [X0T (a:=()) rfl]
    show X4u P (Op.intDiv .rem .i64 (Int.negSucc m) (n:Int))=_
    unfold Op.intDiv;rw [if_neg e0];rfl
   unfold X0p;rw [h2];rfl
  simp only [show(X01 (.int .i64 (Int.negSucc m)) && X01 (.int .i64 (n:Int)))=true from rfl,hp]
theorem OD.remZ {t:TypeId} {x y:Operand} {c:TypeId} {a:Int} {n:Nat} (hx:zd E x=some (.int .i64 a)) (hy:zd E y=some (.int .i64 (n:Int))) (hn:0<n)
  (h:OD P ov C ops l ⟨pt C.nt E dst (.int .i64 (a.tmod n)),L⟩ q):OD P ov C ops (⟨dst,.binOp .rem t x y c,ty,pos,after,none⟩::l) ⟨E,L⟩ q:=by
 refine OD.plain (fun g s' a' S=>?_) h
 obtain⟨vx,q1,q2⟩:=X09 S hx
 obtain⟨vy,p1,p2⟩:=X09 S hy
 cases q2;cases p2
 refine⟨_,?_,CR.int⟩
 simp only [X0K,q1,p1]
 exact X08 (XAu hn)
theorem XAv {t:TypeId} {ox oy:Operand} {a b:ByteArray} (hs:a.size+b.size≤1000000000):X1q P .add t ox oy (.string a) (.string b)=some (.string (a++b)):=by
 show X2y P .add t ox oy (.string a) (.string b)=_
 unfold X2y
 have hp:X0p P (do eqGuard .add t ox oy (.string a) (.string b);binOp .add t (.string a) (.string b))=some (.string (a++b)):=by
  have h2:X4u P (do eqGuard .add t ox oy (.string a) (.string b);binOp .add t (.string a) (.string b))=some (.string (a++b)):=by
   rw [X0T (a:=()) rfl]
   show X4u P (Op.stringOp .add a b)=_
   unfold Op.stringOp
   have:¬ ((a.size+b.size:Nat):Int)>IntKind.i64.max:=by
    have:IntKind.i64.max=9223372036854775807:=rfl
    rw [this];omega
   simp only [if_neg this];rfl
  unfold X0p;rw [h2];rfl
 simp only [show(X01 (.string a) && X01 (.string b))=true from rfl,hp]
theorem OD.catS {t:TypeId} {x y:Operand} {c:TypeId} {a b:ByteArray} (hx:zd E x=some (.str a)) (hy:zd E y=some (.str b)) (hs:a.size+b.size≤1000000000)
  (h:OD P ov C ops l ⟨pt C.nt E dst (.str (a++b)),L⟩ q):OD P ov C ops (⟨dst,.binOp .add t x y c,ty,pos,after,none⟩::l) ⟨E,L⟩ q:=by
 refine OD.plain (fun g s' a' S=>?_) h
 obtain⟨vx,q1,q2⟩:=X09 S hx
 obtain⟨vy,p1,p2⟩:=X09 S hy
 cases q2;cases p2
 refine⟨.string (a++b),?_,CR.str⟩
 simp only [X0K,q1,p1]
 exact X08 (XAv hs)
theorem XAw {z:Int} {n:Nat} (hn:0<n):((z.tmod n+n).tmod n)=((z % (n:Int)).toNat:Int):=by
 have h1:0≤z % (n:Int):=Int.emod_nonneg z (by omega)
 have h2:z % (n:Int)<n:=Int.emod_lt_of_pos z (by omega)
 have h3 : -(n:Int)<z.tmod n:=by
  have:=Int.lt_tmod_of_pos z (b:=(n:Int)) (by omega);omega
 have h4:0≤z.tmod n+n:=by omega
 rw [Int.tmod_eq_emod_of_nonneg h4]
 have h5:(z.tmod n+n) % (n:Int)=z % n:=by
  rw [Int.add_emod_right]
  have:=Int.mul_tdiv_add_tmod z n
  conv=>rhs;rw [← this]
  rw [Int.mul_add_emod_self_left]
 rw [h5]
 show z % n=((z % n).toNat:Int)
 omega
def XDc (P:Program) (t:TypeId):Bool:=match P.underlying t with
 | some (.slice e)=>match P.underlying e with
  | some (.int .u8)=>true
  | _=>false
 | _=>false
theorem X9c:∀ xs:List Int,u8s (xs.map (Value.int .u8))=some xs
 | []=>rfl
 | x::xs=>by simp only [List.map_cons,u8s,X9c xs]
theorem f2_u8 {M:Nat→Prop} {a:AH}:∀ {xs:List Int} {vs:List Value},F2 (CR M a) (xs.map (D.int .u8)) vs→vs=xs.map (Value.int .u8):=by
 intro xs
 induction xs with
 | nil=>intro vs h;cases h;rfl
 | cons x xs ih =>
  intro vs h
  cases h with
  | cons h t=>cases h;rw [ih t];rfl
theorem OD.convBS {src dst':TypeId} {x:Operand} {n:Nat} {ds:List D} {xs:List Int} (hx:zd E x=some (.sl 1 n ds)) (he:ds=xs.map (D.int .u8)) (hn:0<n) (hs:XDc P src=true) (hd:X6E P dst'=true)
  (h:OD P ov C ops l ⟨pt C.nt E dst (.str (strOfNums xs)),L⟩ q):OD P ov C ops (⟨dst,.convert src dst' x,ty,pos,after,none⟩::l) ⟨E,L⟩ q:=by
 subst he
 refine OD.plain (fun g s a S=>?_) h
 obtain⟨vx,q1,q2⟩:=X09 S hx
 refine⟨.string (strOfNums xs),?_,CR.str⟩
 have hd':=X4K hd
 unfold XDc at hs
 split at hs
 case h_2=>cases hs
 rename_i e hu
 split at hs
 case h_2=>cases hs
 rename_i hu2
 rcases CR.sl_inv (show CR (MM C.M g) a (.sl 1 n (xs.map (D.int .u8))) vx from q2)with⟨rfl,_⟩ | ⟨b,i,c,rfl,hc,hsl⟩
 · omega
 obtain⟨B,g1,g2,g3,g4,g5,g6,g7⟩:=hsl.ex
 obtain⟨new,x1,x2,x3⟩:=XAm (g:=g) (show CR (MM C.M g) a (.sl 1 n (xs.map (D.int .u8))) (.slice (some ⟨b,i,none⟩) n c)from q2)
 have hr:a.rdL b i n=some new:=by
  have h1:X1k a 1 (.slice (some ⟨b,i,none⟩) n c)=match a.rdL b i (n*1)with | some l=>some (n,l) | none=>none:=rfl
  rw [h1,Nat.mul_one]at x1
  cases hq:a.rdL b i n with
  | none=>rw [hq]at x1;cases x1
  | some l2=>rw [hq]at x1;cases x1;rfl
 have hq:X8l P src dst' (.slice (some ⟨b,i,none⟩) n c)=none:=rfl
 simp only [X0K,q1,X36,hq,hu,hd',hu2,hr,f2_u8 x2,X9c]
end
end Go.Vai
namespace Go.Vai
noncomputable section
variable {P:Program} {ov:Ov} {C:Cx0}
variable {ops:Array Oper} {dst:Option Nat} {ty:TypeId} {pos:String} {after:Array Edge} {l:List Oper} {E:X0j} {L:List Ob} {q:SD→Prop}
section
variable {nt:Nat} {M:Nat→Prop} {a0:AH} {g0:Gh} {bx:Nat→Prop} {b i e n c:Nat} {cs:List D}
theorem OD.fadL {t:TypeId} {x:Operand} {f o o1 b':Nat} {x':Option Nat} (hx:zd E x=some (X3g b (i+o))) (hf:X0R P t (.pointer (some ⟨0,0,none⟩)) f=some (.pointer (some ⟨b',o1,x'⟩)))
  (h:OD P ov C ops l ⟨pt C.nt E dst (X3g b (i+(o+o1))),L⟩ q):OD P ov C ops (⟨dst,.fieldAddr t x f,ty,pos,after,none⟩::l) ⟨E,L⟩ q:=by
 refine OD.plain (fun g s a S=>?_) h
 obtain⟨vx,q1,q2⟩:=X09 S hx
 have q2:=X2w q2
 subst q2
 refine⟨.pointer (some ⟨b,i+(o+o1),none⟩),?_,.lit rfl⟩
 simp only [X0K,q1]
 refine X08 ?_
 have:=X2n (b:=b) (i:=i+o) hf
 rw [← Nat.add_assoc]
 exact this
end
end
end Go.Vai

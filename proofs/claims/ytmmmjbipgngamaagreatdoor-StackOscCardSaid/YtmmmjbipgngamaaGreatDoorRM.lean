/-
  What is proved here: data told in words that say less; bits of integers; a row that grows by data of any length (part RM  remainders of any integers, texts laid end to end (part RQ of the layer for plain data). a row that a call is given, told by its place; loads of its cells that are not ordered with calls; s No conditions but those that the theorems state.
-/
import Derived.Test.YtmmmjbipgngamaaGreatDoorRJ
set_option linter.unusedVariables false
set_option linter.unusedSimpArgs false
namespace Go.Vai
noncomputable section
variable {P:Program} {ov:Ov} {C:Cx0} {ops:Array Oper} {dst:Option Nat} {ty:TypeId} {pos:String} {after:Array Edge} {l:List Oper} {E:X0j} {L:List Ob} {q:SD→Prop}
end
end Go.Vai
namespace Go.Vai
noncomputable section
variable {P:Program} {ov:Ov} {C:Cx0} {ops:Array Oper} {dst:Option Nat} {ty:TypeId} {pos:String} {after:Array Edge} {l:List Oper} {E:X0j} {L:List Ob} {q:SD→Prop}
theorem XAV {t:TypeId} {ox oy:Operand} {a b:ByteArray} (hs:a.size+b.size≤1000000000):X1w P .add t ox oy (.string a) (.string b)=some (.string (a++b)):=by
 show X3K P .add t ox oy (.string a) (.string b)=_
 unfold X3K
 have hp:X0q P (do eqGuard .add t ox oy (.string a) (.string b);binOp .add t (.string a) (.string b))=some (.string (a++b)):=by
  have h2:X55 P (do eqGuard .add t ox oy (.string a) (.string b);binOp .add t (.string a) (.string b))=some (.string (a++b)):=by
   rw [X0U (a:=()) rfl]
   show X55 P (Op.stringOp .add a b)=_
   unfold Op.stringOp
   have:¬ ((a.size+b.size:Nat):Int)>IntKind.i64.max:=by
    have:IntKind.i64.max=9223372036854775807:=rfl
    rw [this];omega
   simp only [if_neg this];rfl
  unfold X0q;rw [h2];rfl
 simp only [show(X01 (.string a) && X01 (.string b))=true from rfl,hp]
theorem OD.catS {t:TypeId} {x y:Operand} {c:TypeId} {a b:ByteArray} (hx:zd E x=some (.str a)) (hy:zd E y=some (.str b)) (hs:a.size+b.size≤1000000000)
  (h:OD P ov C ops l ⟨pt C.nt E dst (.str (a++b)),L⟩ q):OD P ov C ops (⟨dst,.binOp .add t x y c,ty,pos,after,none⟩::l) ⟨E,L⟩ q:=by
 refine OD.plain (fun g s' a' S=>?_) h
 obtain⟨vx,q1,q2⟩:=X0B S hx
 obtain⟨vy,p1,p2⟩:=X0B S hy
 cases q2;cases p2
 refine⟨.string (a++b),?_,CR.str⟩
 simp only [X0M,q1,p1]
 exact X08 (XAV hs)
end
end Go.Vai
namespace Go.Vai
noncomputable section
variable {P:Program} {ov:Ov} {C:Cx0}
variable {ops:Array Oper} {dst:Option Nat} {ty:TypeId} {pos:String} {after:Array Edge} {l:List Oper} {E:X0j} {L:List Ob} {q:SD→Prop}
section
variable {nt:Nat} {M:Nat→Prop} {a0:AH} {g0:Gh} {bx:Nat→Prop} {b i e n c:Nat} {cs:List D}
theorem OD.fadL {t:TypeId} {x:Operand} {f o o1 b':Nat} {x':Option Nat} (hx:zd E x=some (X3W b (i+o))) (hf:X0Q P t (.pointer (some ⟨0,0,none⟩)) f=some (.pointer (some ⟨b',o1,x'⟩)))
  (h:OD P ov C ops l ⟨pt C.nt E dst (X3W b (i+(o+o1))),L⟩ q):OD P ov C ops (⟨dst,.fieldAddr t x f,ty,pos,after,none⟩::l) ⟨E,L⟩ q:=by
 refine OD.plain (fun g s a S=>?_) h
 obtain⟨vx,q1,q2⟩:=X0B S hx
 have q2:=X2n q2
 subst q2
 refine⟨.pointer (some ⟨b,i+(o+o1),none⟩),?_,.lit rfl⟩
 simp only [X0M,q1]
 refine X08 ?_
 have:=X2f (b:=b) (i:=i+o) hf
 rw [← Nat.add_assoc]
 exact this
end
end
end Go.Vai

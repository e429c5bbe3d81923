/-
  What is proved here: rules for rows of numbers and truths, as lists (part RI). rules of the layer for plain data once more, with the kernel's part filled in (part RS: short forms) No conditions but those that the theorems state.
-/
import Derived.Test.YtmmmjbipgngamaaGreatDoorRH
import Derived.KernelRfl
set_option linter.unusedVariables false
set_option linter.unusedSimpArgs false
namespace Go.Vai
noncomputable section
variable {P:Program} {ov:Ov} {C:Cx0}
variable {ops:Array Oper} {dst:Option Nat} {ty:TypeId} {pos_:String} {after:Array Edge} {l:List Oper} {E:X0j} {L:List Ob} {q:SD→Prop} {α:Type}
def natD (n:Nat):D:=.int .i64 (n:Int)
theorem getD_some {xs:List α} {i:Nat} {d:α} (h:i<xs.length):xs[i]?=some (xs.getD i d):=by
 rw [List.getElem?_eq_getElem h,List.getD_eq_getElem?_getD,List.getElem?_eq_getElem h];rfl
theorem X1H {rs:Array ResultVar} {n0:Nat} {Q:D→List Ob→Prop} {σ:SD} (h:XAj P rs n0 Q σ):(XDV P rs n0 Q).r σ:=h
theorem X1I {rs:Array ResultVar} {n0:Nat} {Q:D→List Ob→Prop} {σ:SD} (h:XAj P rs n0 Q σ):(XDV P rs n0 Q).n σ:=h
theorem XAL {rs:Array ResultVar} {n0:Nat} {E:X0j} {L L':List Ob} {r:D} {Q:D→List Ob→Prop} (k:Nat) (h:X5g P rs ⟨E,L⟩=some r) (h1:n0≤k) (h2:k≤L.length) (hL:L.take k=L') (hc:X1X k [(0,r)] L'=true) (hq:Q r L'):XAj P rs n0 Q ⟨E,L⟩ :=
 ⟨r,k,h,h1,h2,by rw [show(SD.mk E L).L=L from rfl,hL];exact hc,by rw [show(SD.mk E L).L=L from rfl,hL];exact hq⟩
theorem OD.idxE {t:TypeId} {x y:Operand} {j n c i e:Nat} {k:IntKind} {z:Int} (hx:zd E x=some (.row j 0 n c)) (hy:zd E y=some (.int k z)) (ht:X3f P t=some e) (hz:z=(i:Int)) (h1:i<n)
  (h:OD P ov C ops l ⟨pt C.nt E dst (.loc j (i*e)),L⟩ q):OD P ov C ops (⟨dst,.indexAddr t x y,ty,pos_,after,none⟩::l) ⟨E,L⟩ q:=by
 refine OD.idxR hx hy ht (by omega) (by omega) ?_
 subst hz
 rw [Int.toNat_natCast,Nat.zero_add];exact h
theorem OD.idxSE {t:TypeId} {x y:Operand} {n i e:Nat} {cs:List D} {k:IntKind} {z:Int} (hx:zd E x=some (.sl e n cs)) (hy:zd E y=some (.int k z)) (ht:X3f P t=some e) (hz:z=(i:Int)) (h1:i<n)
  (h:OD P ov C ops l ⟨pt C.nt E dst (.ep e n cs (i*e)),L⟩ q):OD P ov C ops (⟨dst,.indexAddr t x y,ty,pos_,after,none⟩::l) ⟨E,L⟩ q:=by
 refine OD.idx hx hy ht (by omega) (by omega) ?_
 subst hz
 rw [Int.toNat_natCast];exact h
theorem XAt {L:List Ob} {i:Nat} {o o':Ob} (h:L[i]?=some o):L.set i o=L:=by
 refine List.ext_getElem? fun j=>?_
 by_cases e:j=i
 · subst e;rw [List.getElem?_set_self (List.getElem?_eq_some_iff.1 h).1,h]
 · rw [List.getElem?_set_ne (fun q=>e q.symm)]
theorem OD.nilRowB (i o e:Nat) {cs:List D} (hL:L[i]?=some (.box cs)) (hc:cs[o]?=some (.lit (.slice none 0 0))) (h:OD P ov C ops l ⟨E,L.set i (.box (cs.set o (.row L.length 0 0 0)))++[.row e 0 []]⟩ q):OD P ov C ops l ⟨E,L⟩ q:=fun g s a S=>by
 have S1:=S.nilRow e
 refine h (g++[none]) s a ?_
 have hi:=(List.getElem?_eq_some_iff.1 hL).1
 have hlen:g.length=L.length:=S.len
 have e1:L.set i (.box (cs.set o (.row L.length 0 0 0)))++[Ob.row e 0 []]=(L++[Ob.row e 0 []]).set i (.box (cs.set o (.row L.length 0 0 0))):=by
  rw [List.set_append_left _ _ hi]
 rw [e1]
 refine S1.heap' (X1A.refl (fun _=>False) a) (fun _ f=>f.elim) S1.ok (Gh.On.refl _) (by simp [hlen]) (fun k hk=>.inl hk) S1.nd (fun j x ob h1 h2=>?_) fun j cs' h2=>?_
 ·
  by_cases hj:j=i
  ·
   subst hj
   rw [List.getElem?_set_self (by simp;omega)]at h2
   cases h2
   have hLL:(L++[Ob.row e 0 []])[j]?=some (.box cs):=by rw [List.getElem?_append_left hi];exact hL
   obtain⟨b,k,vs,rfl,p1,p2⟩:=S1.obj j x _ h1 hLL
   obtain⟨v,q1,q2⟩:=p2.get o _ hc
   have hv:=X2w q2.dr
   subst hv
   refine⟨b,k,vs,rfl,p1,?_⟩
   have:vs=vs.set o (.slice none 0 0):=by
    refine List.ext_getElem? fun m=>?_
    by_cases hm:m=o
    · subst hm;rw [List.getElem?_set_self (List.getElem?_eq_some_iff.1 q1).1,q1]
    · rw [List.getElem?_set_ne (fun q=>hm q.symm)]
   rw [this]
   exact p2.set o _ _ (.inl ⟨by rw [← hlen];simp,rfl,rfl,rfl⟩)
  ·
   rw [List.getElem?_set_ne (fun q=>hj q.symm)]at h2
   exact S1.obj j x ob h1 h2
 ·
  by_cases hj:j=i
  · subst hj;exact .inr ⟨cs,by rw [List.getElem?_append_left hi];exact hL⟩
  · rw [List.getElem?_set_ne (fun q=>hj q.symm)]at h2;exact .inr ⟨cs',h2⟩
end
end Go.Vai
namespace Go.Vai
noncomputable section
variable {P:Program} {ov:Ov} {C:Cx0} {ops:Array Oper} {dst:Option Nat} {ty:TypeId} {pos_:String} {after:Array Edge} {l:List Oper} {E:X0j} {L:List Ob} {q:SD→Prop}
abbrev D.i64 (x:Int):D:=.int .i64 x
theorem OD.rE (k:Nat) (E':X0j) (hq:OD P ov C ops (l.drop k) ⟨E',L⟩ q) (h:XDT P C.nt ops (l.take k) E L (E'.map Prod.fst)=some (E',L):=by kernel_rfl):OD P ov C ops l ⟨E,L⟩ q:=OD.run k _ h hq
theorem OD.rL (k:Nat) (E':X0j) (L':List Ob) (hq:OD P ov C ops (l.drop k) ⟨E',L'⟩ q) (h:XDT P C.nt ops (l.take k) E L (E'.map Prod.fst)=some (E',L'):=by kernel_rfl):OD P ov C ops l ⟨E,L⟩ q:=OD.run k _ h hq
theorem rP {rs:Array ResultVar} {σ:SD} {r0:D} (r:D) (e:r=r0) (h:X5g P rs σ=some r:=by kernel_rfl) (hc:X1X 0 [(0,r)] []=true:=by kernel_rfl):XAj P rs 0 (fun r' L'=>r'=r0∧L'=[]) σ:=X2v h hc e
theorem OD.cE {x:Operand} {args:Array Operand} {ats:Array TypeId} {f:FuncId} {ds:List D} {r:D} (hf:X2u P ov f ds r) (h:OD P ov C ops l ⟨pt C.nt E dst r,L⟩ q) (hx:zd E x=some (.fn f):=by rfl) (hl:zdL E args.toList=some ds:=by kernel_rfl) (hr:ds.all X6C=true:=by kernel_rfl) (hb:X1l P f=true:=by kernel_rfl) :
  OD P ov C ops (⟨dst,.call ⟨.value x,args,ats⟩,ty,pos_,after,none⟩::l) ⟨E,L⟩ q:=OD.callE hf hx hl hr hb h
theorem OD.cO (sel:List Nat) (ds:List D) {x:Operand} {args:Array Operand} {ats:Array TypeId} {f:FuncId} {ds':List D} {Lc:List Ob} {R:D→List Ob→Prop} (hf:FnD P ov f ds' Lc R) (h:∀ r L',R r L'→OD P ov C ops l ⟨pt C.nt (clE sel L' E) dst (X7D sel L.length r),XAq sel L' L⟩ q)
  (hx:zd E x=some (.fn f):=by rfl) (hl:zdL E args.toList=some ds:=by kernel_rfl) (hr:XCc sel ds=some ds':=by kernel_rfl) (hLc:XCe sel L sel=some Lc:=by kernel_rfl) (hnd:X4J sel=true:=by kernel_rfl) (hb:X1l P f=true:=by kernel_rfl) :
  OD P ov C ops (⟨dst,.call ⟨.value x,args,ats⟩,ty,pos_,after,none⟩::l) ⟨E,L⟩ q:=OD.callO sel hf hx hl hr hLc hnd hb h
theorem OD.cP {x:Operand} {args:Array Operand} {ats:Array TypeId} {f:FuncId} {ds:List D} (R:D→Prop) (hf:FnD P ov f ds [] fun r L'=>R r∧L'=[]) (h:∀ r,R r→OD P ov C ops l ⟨pt C.nt E dst r,L⟩ q)
  (hx:zd E x=some (.fn f):=by rfl) (hl:zdL E args.toList=some ds:=by kernel_rfl) (hr:ds.all X6C=true:=by kernel_rfl) (hb:X1l P f=true:=by kernel_rfl):OD P ov C ops (⟨dst,.call ⟨.value x,args,ats⟩,ty,pos_,after,none⟩::l) ⟨E,L⟩ q:=OD.callP hx hl hr hb hf h
theorem rO {rs:Array ResultVar} {n0:Nat} {E:X0j} {L:List Ob} {Q:D→List Ob→Prop} (k:Nat) (r:D) (L':List Ob) (hq:Q r L') (h:X5g P rs ⟨E,L⟩=some r:=by kernel_rfl) (h1:Nat.ble n0 k=true:=by kernel_rfl) (h2:Nat.ble k L.length=true:=by kernel_rfl) (hL:L.take k=L':=by kernel_rfl) (hc:X1X k [(0,r)] L'=true:=by kernel_rfl):XAj P rs n0 Q ⟨E,L⟩ :=
 XAL k h (Nat.le_of_ble_eq_true h1) (Nat.le_of_ble_eq_true h2) hL hc hq
theorem rOr {rs:Array ResultVar} {n0:Nat} {E:X0j} {L:List Ob} {Q:D→List Ob→Prop} (k:Nat) (r:D) (L':List Ob) (hq:Q r L') (h:X5g P rs ⟨E,L⟩=some r:=by kernel_rfl) (h1:Nat.ble n0 k=true:=by kernel_rfl) (h2:Nat.ble k L.length=true:=by kernel_rfl) (hL:L.take k=L':=by kernel_rfl) (hc:X1X k [(0,r)] L'=true:=by kernel_rfl):(XDV P rs n0 Q).r ⟨E,L⟩:=rO k r L' hq h h1 h2 hL hc
theorem rOn {rs:Array ResultVar} {n0:Nat} {E:X0j} {L:List Ob} {Q:D→List Ob→Prop} (k:Nat) (r:D) (L':List Ob) (hq:Q r L') (h:X5g P rs ⟨E,L⟩=some r:=by kernel_rfl) (h1:Nat.ble n0 k=true:=by kernel_rfl) (h2:Nat.ble k L.length=true:=by kernel_rfl) (hL:L.take k=L':=by kernel_rfl) (hc:X1X k [(0,r)] L'=true:=by kernel_rfl):(XDV P rs n0 Q).n ⟨E,L⟩:=rO k r L' hq h h1 h2 hL hc
theorem bs:(∀ b:Bool,(true && b)=b)∧(∀ b:Bool,(false && b)=false)∧(∀ b:Bool,(b && true)=b)∧(∀ b:Bool,(b && false)=false)∧(∀ b:Bool,(true || b)=true)∧(∀ b:Bool,(false || b)=b)∧(∀ b:Bool,(b || true)=true)∧(∀ b:Bool,(b || false)=b) ∧
  (!true)=false∧(!false)=true∧(¬ True)=False∧(¬ False)=True∧(∀ p:Prop,(p∧True)=p)∧(∀ p:Prop,(True∧p)=p)∧(∀ p:Prop,(p∨True)=True)∧(∀ p:Prop,(True∨p)=True)∧(∀ p:Prop,(p∨False)=p)∧(∀ p:Prop,(False∨p)=p)∧(∀ p:Prop,(p∧False)=False)∧(∀ p:Prop,(False∧p)=False)∧(false=true)=False:=by
 refine⟨?_,?_,?_,?_,?_,?_,?_,?_,rfl,rfl,?_,?_,?_,?_,?_,?_,?_,?_,?_,?_,?_⟩<;>simp
end
end Go.Vai

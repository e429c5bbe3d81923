/-
  What is proved here: rules for rows of numbers and truths, as lists (part RI). rules of the layer for plain data once more, with the kernel's part filled in (part RS: short forms) No conditions but those that the theorems state.
-/
import Derived.Test.YtmmmjbipgngamaaGreatDoorRH
import Derived.KernelRfl
set_option linter.unusedVariables false
set_option linter.unusedSimpArgs false
namespace Go.Vai
noncomputable section
variable {P:Program} {ov:Ov} {C:Cx0}
variable {ops:Array Oper} {dst:Option Nat} {ty:TypeId} {pos_:String} {after:Array Edge} {l:List Oper} {E:X0m} {L:List Ob} {q:SD→Prop} {α:Type}
theorem XDV {f:α→D} {xs:List α} {i:Nat} (d0:α) (h:i<xs.length):(xs.map f)[i]?=some (f (xs.getD i d0)):=by
 rw [List.getElem?_map,List.getElem?_eq_getElem h,List.getD_eq_getElem?_getD,List.getElem?_eq_getElem h];rfl
theorem OD.idxSV {t:TypeId} {x y:Operand} {n i:Nat} {cs:List D} {k:IntKind} {z:Int} (hx:zd E x=some (.sl 1 n cs)) (hy:zd E y=some (.int k z)) (ht:X2s P t=some 1) (hz:z=(i:Int)) (h1:i<n)
  (h:OD P ov C ops l ⟨pt C.nt E dst (.ep 1 n cs i),L⟩ q):OD P ov C ops (⟨dst,.indexAddr t x y,ty,pos_,after,none⟩::l) ⟨E,L⟩ q:=by
 refine OD.idx hx hy ht (by omega) (by omega) ?_
 subst hz
 rw [Int.toNat_natCast,Nat.mul_one];exact h
theorem OD.ldSV (d0:α) {f:α→D} {t:TypeId} {x:Operand} {n i:Nat} {xs:List α} (hx:zd E x=some (.ep 1 n (xs.map f) i)) (ha:X2u P t=some false) (hi:i<xs.length)
  (h:OD P ov C ops l ⟨pt C.nt E dst (f (xs.getD i d0)),L⟩ q):OD P ov C ops (⟨dst,.load t x,ty,pos_,after,none⟩::l) ⟨E,L⟩ q :=
 OD.ldL hx ha (XDV d0 hi) h
theorem OD.appV {f:α→D} {args:Array Operand} {ats:Array TypeId} {x y:Operand} {j n m:Nat} {xs vs:List α} {ds:List D} (ha:args.toList=[x,y]) (ht:X8m P ats=some 1) (hx:zd E x=some (.row j 0 n n)) (hL:L[j]?=some (.row 1 n (xs.map f))) (hy:zd E y=some (.sl 1 m ds)) (hv:ds=vs.map f)
  (hl:xs.length=n) (hm:0<m) (h2:n+m≤100000000)
  (h:OD P ov C ops l ⟨pt C.nt (X3a j E) dst (.row j 0 (n+m) (n+m)),X37 j (L.set j (.row 1 (n+m) ((xs++vs).map f)))⟩ q):OD P ov C ops (⟨dst,.call ⟨.builtin .append,args,ats⟩,ty,pos_,after,none⟩::l) ⟨E,L⟩ q:=by
 refine OD.appG ha ht hx hL hy (Nat.le_refl _) (by omega) (by omega) h2 ?_
 rw [Nat.mul_one,List.take_of_length_le (by simpa using Nat.le_of_eq hl),hv,← List.map_append];exact h
def natD (n:Nat):D:=.int .i64 (n:Int)
theorem OD.appE {enc:α→List D} {args:Array Operand} {ats:Array TypeId} {x y:Operand} {j n m e:Nat} {xs vs:List α} {ds:List D} (ha:args.toList=[x,y]) (ht:X8m P ats=some e) (hx:zd E x=some (.row j 0 n n)) (hL:L[j]?=some (.row e n (xs.flatMap enc))) (hy:zd E y=some (.sl e m ds)) (hv:ds=vs.flatMap enc)
  (he:∀ x,(enc x).length=e) (hl:xs.length=n) (hm:0<m) (h1:(n+m)*e≤100000000) (h2:n+m≤100000000)
  (h:OD P ov C ops l ⟨pt C.nt (X3a j E) dst (.row j 0 (n+m) (n+m)),X37 j (L.set j (.row e (n+m) ((xs++vs).flatMap enc)))⟩ q):OD P ov C ops (⟨dst,.call ⟨.builtin .append,args,ats⟩,ty,pos_,after,none⟩::l) ⟨E,L⟩ q:=by
 refine OD.appG ha ht hx hL hy (Nat.le_refl _) (by omega) h1 h2 ?_
 rw [List.take_of_length_le (by rw [XDM he,hl];exact Nat.le_refl _),hv,← List.flatMap_append];exact h
theorem getD_some {xs:List α} {i:Nat} {d:α} (h:i<xs.length):xs[i]?=some (xs.getD i d):=by
 rw [List.getElem?_eq_getElem h,List.getD_eq_getElem?_getD,List.getElem?_eq_getElem h];rfl
theorem X06 {rs:Array ResultVar} {n0:Nat} {Q:D→List Ob→Prop} {σ:SD} (h:XDK P rs n0 Q σ):(XGe P rs n0 Q).r σ:=h
theorem X07 {rs:Array ResultVar} {n0:Nat} {Q:D→List Ob→Prop} {σ:SD} (h:XDK P rs n0 Q σ):(XGe P rs n0 Q).n σ:=h
theorem X26 {rs:Array ResultVar} {n0:Nat} {E:X0m} {L L':List Ob} {r:D} {Q:D→List Ob→Prop} (k:Nat) (h:X6v P rs ⟨E,L⟩=some r) (h1:n0≤k) (h2:k≤L.length) (hL:L.take k=L') (hc:closedB k [(0,r)] L'=true) (hq:Q r L'):XDK P rs n0 Q ⟨E,L⟩ :=
 ⟨r,k,h,h1,h2,by rw [show(SD.mk E L).L=L from rfl,hL];exact hc,by rw [show(SD.mk E L).L=L from rfl,hL];exact hq⟩
theorem OD.idxE {t:TypeId} {x y:Operand} {j n c i e:Nat} {k:IntKind} {z:Int} (hx:zd E x=some (.row j 0 n c)) (hy:zd E y=some (.int k z)) (ht:X2s P t=some e) (hz:z=(i:Int)) (h1:i<n)
  (h:OD P ov C ops l ⟨pt C.nt E dst (.loc j (i*e)),L⟩ q):OD P ov C ops (⟨dst,.indexAddr t x y,ty,pos_,after,none⟩::l) ⟨E,L⟩ q:=by
 refine OD.idxR hx hy ht (by omega) (by omega) ?_
 subst hz
 rw [Int.toNat_natCast,Nat.zero_add];exact h
theorem OD.idxSE {t:TypeId} {x y:Operand} {n i e:Nat} {cs:List D} {k:IntKind} {z:Int} (hx:zd E x=some (.sl e n cs)) (hy:zd E y=some (.int k z)) (ht:X2s P t=some e) (hz:z=(i:Int)) (h1:i<n)
  (h:OD P ov C ops l ⟨pt C.nt E dst (.ep e n cs (i*e)),L⟩ q):OD P ov C ops (⟨dst,.indexAddr t x y,ty,pos_,after,none⟩::l) ⟨E,L⟩ q:=by
 refine OD.idx hx hy ht (by omega) (by omega) ?_
 subst hz
 rw [Int.toNat_natCast];exact h
theorem XDW {L:List Ob} {i:Nat} {o o':Ob} (h:L[i]?=some o):L.set i o=L:=by
 refine List.ext_getElem? fun j=>?_
 by_cases e:j=i
 · subst e;rw [List.getElem?_set_self (List.getElem?_eq_some_iff.1 h).1,h]
 · rw [List.getElem?_set_ne (fun q=>e q.symm)]
theorem OD.nilRowB (i o e:Nat) {cs:List D} (hL:L[i]?=some (.box cs)) (hc:cs[o]?=some (.lit (.slice none 0 0))) (h:OD P ov C ops l ⟨E,L.set i (.box (cs.set o (.row L.length 0 0 0)))++[.row e 0 []]⟩ q):OD P ov C ops l ⟨E,L⟩ q:=fun g s a S=>by
 have S1:=S.nilRow e
 refine h (g++[none]) s a ?_
 have hi:=(List.getElem?_eq_some_iff.1 hL).1
 have hlen:g.length=L.length:=S.len
 have e1:L.set i (.box (cs.set o (.row L.length 0 0 0)))++[Ob.row e 0 []]=(L++[Ob.row e 0 []]).set i (.box (cs.set o (.row L.length 0 0 0))):=by
  rw [List.set_append_left _ _ hi]
 rw [e1]
 refine S1.heap' (X1C.refl (fun _=>False) a) (fun _ f=>f.elim) S1.ok (Gh.On.refl _) (by simp [hlen]) (fun k hk=>.inl hk) S1.nd (fun j x ob h1 h2=>?_) fun j cs' h2=>?_
 ·
  by_cases hj:j=i
  ·
   subst hj
   rw [List.getElem?_set_self (by simp;omega)]at h2
   cases h2
   have hLL:(L++[Ob.row e 0 []])[j]?=some (.box cs):=by rw [List.getElem?_append_left hi];exact hL
   obtain⟨b,k,vs,rfl,p1,p2⟩:=S1.obj j x _ h1 hLL
   obtain⟨v,q1,q2⟩:=p2.get o _ hc
   have hv:=X1i q2.dr
   subst hv
   refine⟨b,k,vs,rfl,p1,?_⟩
   have:vs=vs.set o (.slice none 0 0):=by
    refine List.ext_getElem? fun m=>?_
    by_cases hm:m=o
    · subst hm;rw [List.getElem?_set_self (List.getElem?_eq_some_iff.1 q1).1,q1]
    · rw [List.getElem?_set_ne (fun q=>hm q.symm)]
   rw [this]
   exact p2.set o _ _ (.inl ⟨by rw [← hlen];simp,rfl,rfl,rfl⟩)
  ·
   rw [List.getElem?_set_ne (fun q=>hj q.symm)]at h2
   exact S1.obj j x ob h1 h2
 ·
  by_cases hj:j=i
  · subst hj;exact .inr ⟨cs,by rw [List.getElem?_append_left hi];exact hL⟩
  · rw [List.getElem?_set_ne (fun q=>hj q.symm)]at h2;exact .inr ⟨cs',h2⟩
end
end Go.Vai
namespace Go.Vai
noncomputable section
variable {P:Program} {ov:Ov} {C:Cx0} {ops:Array Oper} {dst:Option Nat} {ty:TypeId} {pos_:String} {after:Array Edge} {l:List Oper} {E:X0m} {L:List Ob} {q:SD→Prop}
abbrev D.i64 (x:Int):D:=.int .i64 x
theorem OD.rE (k:Nat) (E':X0m) (hq:OD P ov C ops (l.drop k) ⟨E',L⟩ q) (h:XGc P C.nt ops (l.take k) E L (E'.map Prod.fst)=some (E',L):=by kernel_rfl):OD P ov C ops l ⟨E,L⟩ q:=OD.run k _ h hq
theorem OD.rL (k:Nat) (E':X0m) (L':List Ob) (hq:OD P ov C ops (l.drop k) ⟨E',L'⟩ q) (h:XGc P C.nt ops (l.take k) E L (E'.map Prod.fst)=some (E',L'):=by kernel_rfl):OD P ov C ops l ⟨E,L⟩ q:=OD.run k _ h hq
theorem rP {rs:Array ResultVar} {σ:SD} {r0:D} (r:D) (e:r=r0) (h:X6v P rs σ=some r:=by kernel_rfl) (hc:closedB 0 [(0,r)] []=true:=by kernel_rfl):XDK P rs 0 (fun r' L'=>r'=r0∧L'=[]) σ:=X36 h hc e
theorem OD.cE {x:Operand} {args:Array Operand} {ats:Array TypeId} {f:FuncId} {ds:List D} {r:D} (hf:X2G P ov f ds r) (h:OD P ov C ops l ⟨pt C.nt E dst r,L⟩ q) (hx:zd E x=some (.fn f):=by rfl) (hl:zdL E args.toList=some ds:=by kernel_rfl) (hr:ds.all X7d=true:=by kernel_rfl) (hb:X1z P f=true:=by kernel_rfl) :
  OD P ov C ops (⟨dst,.call ⟨.value x,args,ats⟩,ty,pos_,after,none⟩::l) ⟨E,L⟩ q:=OD.callE hf hx hl hr hb h
theorem OD.cO (sel:List Nat) (ds:List D) {x:Operand} {args:Array Operand} {ats:Array TypeId} {f:FuncId} {ds':List D} {Lc:List Ob} {R:D→List Ob→Prop} (hf:FnD P ov f ds' Lc R) (h:∀ r L',R r L'→OD P ov C ops l ⟨pt C.nt (clE sel L' E) dst (X8n sel L.length r),XDS sel L' L⟩ q)
  (hx:zd E x=some (.fn f):=by rfl) (hl:zdL E args.toList=some ds:=by kernel_rfl) (hr:XFY sel ds=some ds':=by kernel_rfl) (hLc:XFa sel L sel=some Lc:=by kernel_rfl) (hnd:X5G sel=true:=by kernel_rfl) (hb:X1z P f=true:=by kernel_rfl) :
  OD P ov C ops (⟨dst,.call ⟨.value x,args,ats⟩,ty,pos_,after,none⟩::l) ⟨E,L⟩ q:=OD.callO sel hf hx hl hr hLc hnd hb h
theorem OD.cP {x:Operand} {args:Array Operand} {ats:Array TypeId} {f:FuncId} {ds:List D} (R:D→Prop) (hf:FnD P ov f ds [] fun r L'=>R r∧L'=[]) (h:∀ r,R r→OD P ov C ops l ⟨pt C.nt E dst r,L⟩ q)
  (hx:zd E x=some (.fn f):=by rfl) (hl:zdL E args.toList=some ds:=by kernel_rfl) (hr:ds.all X7d=true:=by kernel_rfl) (hb:X1z P f=true:=by kernel_rfl):OD P ov C ops (⟨dst,.call ⟨.value x,args,ats⟩,ty,pos_,after,none⟩::l) ⟨E,L⟩ q:=OD.callP hx hl hr hb hf h
theorem rO {rs:Array ResultVar} {n0:Nat} {E:X0m} {L:List Ob} {Q:D→List Ob→Prop} (k:Nat) (r:D) (L':List Ob) (hq:Q r L') (h:X6v P rs ⟨E,L⟩=some r:=by kernel_rfl) (h1:Nat.ble n0 k=true:=by kernel_rfl) (h2:Nat.ble k L.length=true:=by kernel_rfl) (hL:L.take k=L':=by kernel_rfl) (hc:closedB k [(0,r)] L'=true:=by kernel_rfl):XDK P rs n0 Q ⟨E,L⟩ :=
 X26 k h (Nat.le_of_ble_eq_true h1) (Nat.le_of_ble_eq_true h2) hL hc hq
theorem rOr {rs:Array ResultVar} {n0:Nat} {E:X0m} {L:List Ob} {Q:D→List Ob→Prop} (k:Nat) (r:D) (L':List Ob) (hq:Q r L') (h:X6v P rs ⟨E,L⟩=some r:=by kernel_rfl) (h1:Nat.ble n0 k=true:=by kernel_rfl) (h2:Nat.ble k L.length=true:=by kernel_rfl) (hL:L.take k=L':=by kernel_rfl) (hc:closedB k [(0,r)] L'=true:=by kernel_rfl):(XGe P rs n0 Q).r ⟨E,L⟩:=rO k r L' hq h h1 h2 hL hc
theorem rOn {rs:Array ResultVar} {n0:Nat} {E:X0m} {L:List Ob} {Q:D→List Ob→Prop} (k:Nat) (r:D) (L':List Ob) (hq:Q r L') (h:X6v P rs ⟨E,L⟩=some r:=by kernel_rfl) (h1:Nat.ble n0 k=true:=by kernel_rfl) (h2:Nat.ble k L.length=true:=by kernel_rfl) (hL:L.take k=L':=by kernel_rfl) (hc:closedB k [(0,r)] L'=true:=by kernel_rfl):(XGe P rs n0 Q).n ⟨E,L⟩:=rO k r L' hq h h1 h2 hL hc
theorem bs:(∀ b:Bool,(true && b)=b)∧(∀ b:Bool,(false && b)=false)∧(∀ b:Bool,(b && true)=b)∧(∀ b:Bool,(b && false)=false)∧(∀ b:Bool,(true || b)=true)∧(∀ b:Bool,(false || b)=b)∧(∀ b:Bool,(b || true)=true)∧(∀ b:Bool,(b || false)=b) ∧
  (!true)=false∧(!false)=true∧(¬ True)=False∧(¬ False)=True∧(∀ p:Prop,(p∧True)=p)∧(∀ p:Prop,(True∧p)=p)∧(∀ p:Prop,(p∨True)=True)∧(∀ p:Prop,(True∨p)=True)∧(∀ p:Prop,(p∨False)=p)∧(∀ p:Prop,(False∨p)=p)∧(∀ p:Prop,(p∧False)=False)∧(∀ p:Prop,(False∧p)=False)∧(false=true)=False:=by
 refine⟨?_,?_,?_,?_,?_,?_,?_,?_,rfl,rfl,?_,?_,?_,?_,?_,?_,?_,?_,?_,?_,?_⟩<;>simp
end
end Go.Vai

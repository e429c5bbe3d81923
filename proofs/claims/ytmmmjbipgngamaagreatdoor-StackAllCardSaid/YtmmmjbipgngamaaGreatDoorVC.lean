/-
  What is proved here: rows of writes, new blocks and blocks that go on in another's class, of a plain heap, are matched by the value operations of a plain interpreter of Go code (moves, arithmetic, field and index addresses No conditions but those that the theorems state.
-/
import Derived.Test.YtmmmjbipgngamaaGreatDoorVA
set_option linter.unusedVariables false
set_option linter.unusedSimpArgs false
namespace Go.Vai
noncomputable section
def X4X (w:World) (g:Nat):Nat→List Value→World
 | _,[]=>w
 | o,v::vs=>X4X (w.setCell ⟨g,o,none⟩ v) g (o+1) vs
theorem X5S (g:Nat):∀ (vs:List Value) (w:World) (o:Nat),(X4X w g o vs).heap.size=w.heap.size:=by
 intro vs
 induction vs with
 | nil=>intro w o;rfl
 | cons v vs ih=>intro w o;rw [X4X,ih];simp
theorem X5T (g:Nat) (a:Addr):∀ (vs:List Value) (w:World) (o:Nat),(X4X w g o vs).frozen? a=w.frozen? a:=by
 intro vs
 induction vs with
 | nil=>intro w o;rfl
 | cons v vs ih=>intro w o;rw [X4X,ih];simp
theorem XA0 (g:Nat) (a:Addr):∀ (vs:List Value) (w:World) (o:Nat),(∃ u,w.cell? a=some u)→∃ u,(X4X w g o vs).cell? a=some u:=by
 intro vs
 induction vs with
 | nil=>intro w o h;exact h
 | cons v vs ih=>intro w o h;rw [X4X];exact ih _ _ (cell?_set_any w _ a v h)
theorem X3S (g:Nat) (a:Addr):∀ (vs:List Value) (w:World) (o:Nat),(a.block≠g∨a.off<o∨o+vs.length≤a.off)→(X4X w g o vs).cell? a=w.cell? a:=by
 intro vs
 induction vs with
 | nil=>intro w o h;rfl
 | cons v vs ih =>
  intro w o h
  simp only [List.length_cons]at h
  rw [X4X,ih _ _ (by omega),World.cell?_setCell_other]
  intro e
  subst e
  simp at h
  omega
theorem XFw (g:Nat):∀ (vs:List Value) (w:World) (o j:Nat) (v:Value),(∀ j,j<vs.length→∃ u,w.cell? ⟨g,o+j,none⟩=some u)→vs[j]?=some v→(X4X w g o vs).cell? ⟨g,o+j,none⟩=some v:=by
 intro vs
 induction vs with
 | nil=>intro w o j v _ h;simp at h
 | cons x vs ih =>
  intro w o j v hc h
  rw [X4X]
  cases j with
  | zero =>
   simp at h;subst h
   rw [X3S _ _ _ _ _ (by simp)]
   obtain⟨u,hu⟩:=hc 0 (by simp)
   exact World.cell?_setCell_same w _ x hu
  | succ j =>
   rw [show o+(j+1)=o+1+j from by omega]
   refine ih _ (o+1) j v (fun i hi=>?_) (by simpa using h)
   have:=hc (i+1) (by simp;omega)
   rw [show o+(i+1)=o+1+i from by omega]at this
   exact cell?_set_any w _ _ x this
theorem X5U (g:Nat) (k:Nat) (hk:k≠g):∀ (vs:List Value) (w:World) (o:Nat),(X4X w g o vs).heap[k]?=w.heap[k]?:=by
 intro vs
 induction vs with
 | nil=>intro w o;rfl
 | cons v vs ih =>
  intro w o
  rw [X4X,ih]
  simp only [World.setCell,Array.getElem?_modify]
  rw [if_neg (by omega)]
theorem XCE (g:Nat):∀ (vs:List Value) (w:World) (o:Nat),(X4X w g o vs).os=w.os∧(X4X w g o vs).tape=w.tape∧(X4X w g o vs).output=w.output:=by
 intro vs
 induction vs with
 | nil=>intro w o;exact⟨rfl,rfl,rfl⟩
 | cons v vs ih=>intro w o;rw [X4X];exact ih _ _
theorem X5V {ρ:Rho} {w:World} {b:Nat} {I:Img} (hb:ρ b=some I) (o:Nat) (vs:List Value):Fr ρ w (X4X w I.g o vs):=by
 obtain⟨h1,h2,h3⟩:=XCE I.g vs w o
 exact⟨h1,h2,h3,Nat.le_of_eq (X5S ..).symm,fun k _ hn=>X5U I.g k (fun e=>hn b I hb e.symm) vs w o⟩
theorem XDv (g k:Nat) {r:Obj} (n:X1l r=true):∀ (vs:List Value) (w:World) (o:Nat),w.heap[k]?=some r→(X4X w g o vs).heap[k]?=some r:=by
 intro vs
 induction vs with
 | nil=>intro w o h;exact h
 | cons v vs ih=>intro w o h;rw [X4X];exact ih _ _ (X5R n h)
theorem X42 {ρ:Rho} {b:Nat} {I:Img} (hb:ρ b=some I):∀ (vs vs':List Value) (h h':Heap) (w:World) (i:Nat),X0f ρ h w→h.wrL b i vs=some h'→F2 (X13 ρ) vs vs' →
  X0f ρ h' (X4X w I.g (I.o+i) vs')∧(∀ j,j<vs'.length→(∃ u,w.cell? ⟨I.g,I.o+i+j,none⟩=some u)∧w.frozen? ⟨I.g,I.o+i+j,none⟩=false):=by
 intro vs
 induction vs with
 | nil =>
  intro vs' h h' w i H e hf
  cases hf
  simp only [Heap.wrL,Option.some.injEq]at e
  subst e
  exact⟨H,by simp⟩
 | cons v vs ih =>
  intro vs' h h' w i H e hf
  cases hf with
  | cons hv ht =>
   rename_i v' vs'
   simp only [Heap.wrL]at e
   split at e
   · cases e
   rename_i h₁ e₁
   obtain⟨H₁,hu,hfz⟩:=XDu H e₁ hb hv
   obtain⟨H₂,hr⟩:=ih vs' h₁ h' _ (i+1) H₁ e ht
   refine⟨H₂,?_⟩
   intro j hj
   cases j with
   | zero=>exact⟨hu,hfz⟩
   | succ j =>
    obtain⟨⟨u,r1⟩,r2⟩:=hr j (by simpa using hj)
    rw [show I.o+i+(j+1)=I.o+(i+1)+j from by omega]
    refine⟨?_,by simpa using r2⟩
    by_cases ea:(⟨I.g,I.o+i,none⟩:Addr)=⟨I.g,I.o+(i+1)+j,none⟩
    · simp at ea;omega
    ·
     rw [World.cell?_setCell_other w _ _ v' ea]at r1
     exact⟨u,r1⟩
theorem XCF {P:Program} {w:World} {a:Addr} {v:Value} (hv:oneC v=true) (hc:∃ u,w.cell? a=some u) (hf:w.frozen? a=false):(store a v).run P w=.ok () (w.setCell a v):=by
 obtain⟨u,hu⟩:=hc
 cases v<;>first | (simp [oneC]at hv;done) | simp [store,Sem.run,hu,hf]
theorem X24 (g o i:Nat):(⟨g,o,none⟩:Addr).add i=⟨g,o+i,none⟩:=by
 unfold Addr.add
 split
 · rename_i h;subst h;rfl
 · rfl
theorem X1L {P:Program} (g o:Nat):∀ (vs:List Value) (w:World) (i:Nat),(∀ v∈vs,oneC v=true)→(∀ j,j<vs.length→(∃ u,w.cell? ⟨g,o+i+j,none⟩=some u)∧w.frozen? ⟨g,o+i+j,none⟩=false) →
  (storeCells ⟨g,o,none⟩ vs i).run P w=.ok () (X4X w g (o+i) vs):=by
 intro vs
 induction vs with
 | nil=>intro w i _ _;rfl
 | cons v vs ih =>
  intro w i hv hc
  have h0:=hc 0 (by simp)
  rw [Nat.add_zero]at h0
  rw [storeCells,Sem.run_bind,X24,XCF (hv v (by simp)) h0.1 h0.2]
  simp only [Result.andThen_ok]
  rw [ih (w.setCell ⟨g,o+i,none⟩ v) (i+1) (fun x hx=>hv x (by simp [hx]))]
  · rfl
  ·
   intro j hj
   have:=hc (j+1) (by simp;omega)
   rw [show o+(i+1)+j=o+i+(j+1)from by omega]
   exact⟨cell?_set_any w _ _ v this.1,by simpa using this.2⟩
theorem F2.oneC {ρ:Rho} {l m:List Value} (h:F2 (X13 ρ) l m):∀ v∈m,Vai.oneC v=true:=by
 induction h with
 | nil=>simp
 | cons h t ih =>
  intro v hv
  rcases List.mem_cons.1 hv with rfl | hv
  · exact h.oneC
  · exact ih v hv
theorem X4J {P:Program} {w:World} (g o:Nat):∀ (vs:List Value) (i:Nat) (acc:Array Value),(∀ j v,vs[j]?=some v→w.cell? ⟨g,o+i+j,none⟩=some v) →
  (loadCellsFrom ⟨g,o,none⟩ i vs.length acc).run P w=.ok (acc++vs.toArray) w:=by
 intro vs
 induction vs with
 | nil=>intro i acc _;simp [loadCellsFrom]
 | cons v vs ih =>
  intro i acc hc
  have h0:=hc 0 v (by simp)
  simp only [List.length_cons,loadCellsFrom,X24,Sem.run_bind,run_load]
  rw [show o+i+0=o+i from rfl]at h0
  simp only [h0,Result.andThen_ok]
  rw [ih (i+1) (acc.push v)]
  · simp
  ·
   intro j u hj
   have:=hc (j+1) u (by simpa using hj)
   rw [show o+(i+1)+j=o+i+(j+1)from by omega];exact this
theorem X1Y {P:Program} {w:World} {g o:Nat} {vs:List Value} (hc:∀ (j:Nat) v,vs[j]?=some v→w.cell? ⟨g,o+j,none⟩=some v) :
  (loadCells ⟨g,o,none⟩ vs.length).run P w=.ok vs.toArray w:=by
 have:=X4J (P:=P) g o vs 0 #[] (by simpa using hc)
 simpa[loadCells]using this
def upd (ρ:Rho) (n:Nat) (I:Img):Rho:=fun x=>if x=n then some I else ρ x
theorem X0M (ρ:Rho) (n:Nat) (I:Img):upd ρ n I n=some I:=if_pos rfl
theorem X0U (ρ:Rho) (n:Nat) (I:Img) {x:Nat} (h:x≠n):upd ρ n I x=ρ x:=if_neg h
theorem X0f.fresh {ρ:Rho} {h:Heap} {w:World} (H:X0f ρ h w):ρ h.next=none:=by
 cases e:ρ h.next with
 | none=>rfl
 | some I =>
  obtain⟨B,C,_,_,hb,_⟩:=H.dom _ I e
  omega
theorem X0f.ext_upd {ρ:Rho} {h:Heap} {w:World} (H:X0f ρ h w) (I:Img):Ext ρ (upd ρ h.next I):=by
 intro b J e
 rw [X0U]
 · exact e
 · rintro rfl;rw [H.fresh]at e;cases e
theorem X0f.world {ρ:Rho} {h:Heap} {w w':World} (H:X0f ρ h w) (hs:w.heap.size≤w'.heap.size)
  (hc:∀ b I,ρ b=some I→∀ j,j<I.m→w'.cell? ⟨I.g,j,none⟩=w.cell? ⟨I.g,j,none⟩)
  (hf:∀ b I,ρ b=some I→∀ j,I.o≤j→j<I.m→w.frozen? ⟨I.g,j,none⟩=false→w'.frozen? ⟨I.g,j,none⟩=false)
  (hl:∀ (g:Nat) (o:Obj),X1l o=true→w.heap[g]?=some o→w'.heap[g]?=some o) (hst:∀ b I,ρ b=some I→I.z≠none→∀ o,w.heap[I.g]?=some o→w'.heap[I.g]?=some o) (hk:∀ k,TG k→k<w.heap.size→w'.heap[k]?=w.heap[k]?):X0f ρ h w':=by
 refine⟨⟨H.nx.1.go fun k h=>hk k h (H.nx.1.lt h),H.nx.2⟩,H.dom,?_,?_,H.one,H.fin,H.glob,fun b I L e1 e2=>(H.lp b I L e1 e2).go (Ext.refl ρ) fun o n h=>hl _ o n h,H.ld,H.li,H.lz,fun b I o T e1 ez=>by
  obtain⟨s1,s2,s3,s4⟩:=H.st b I o T e1 ez
  exact⟨s1,s2,s3,fun B C h1 h2 ht=>hst b I e1 (by rw [ez];simp) o (s4 B C h1 h2 ht)⟩⟩
 ·
  intro b I B e1 e2
  obtain⟨k1,k2,k3⟩:=H.img b I B e1 e2
  exact⟨by omega,fun j ho hj=>by rw [hc b I e1 j hj];exact k2 j ho hj,fun hr j ho hj=>hf b I e1 j ho hj (k3 hr j ho hj)⟩
 ·
  intro b I B C e1 e2 e3 e4 i v hi hv
  obtain⟨v',h1,h2⟩:=H.val b I B C e1 e2 e3 e4 i v hi hv
  obtain⟨B',C',d1,d2,_,_,_,_,_,d8⟩:=H.dom b I e1
  rw [e2]at d1;cases d1
  exact⟨v',by rw [hc b I e1 _ (by omega)];exact h1,h2⟩
theorem X0f.add {ρ:Rho} {h:Heap} {w:World} (H:X0f ρ h w) (cells:Tr Value) (size esz c mv:Nat) (w':World) (I:Img) (hn:(∀ k,TG k→k<w.heap.size→w'.heap[k]?=w.heap[k]?)∧¬ TG I.g)
  (hcn:c≤h.next) (hs:w.heap.size≤w'.heap.size) (hIg:I.g<w'.heap.size)
  (hcell:∀ j,I.o≤j→j<I.m→∃ v,w'.cell? ⟨I.g,j,none⟩=some v) (hfz:∀ j,I.o≤j→j<I.m→w'.frozen? ⟨I.g,j,none⟩=false)
  (he:I.e=esz) (hsz:I.o+size≤I.m)
  (hval:∀ i v,i<size→cells.get i=some v→∃ v',w'.cell? ⟨I.g,I.o+i,none⟩=some v'∧X13 (upd ρ h.next I) v v')
  (hold:∀ b J,ρ b=some J→∀ j,j<J.m→((∃ v,w.cell? ⟨J.g,j,none⟩=some v)→∃ v,w'.cell? ⟨J.g,j,none⟩=some v)∧(w.frozen? ⟨J.g,j,none⟩=false→w'.frozen? ⟨J.g,j,none⟩=false))
  (hkeep:∀ b J B C,ρ b=some J→h.blks.get b=some B→h.cls.get B.cls=some C→C.minv≤b→(B.cls=c→mv≤b)→∀ i,i<B.size→w'.cell? ⟨J.g,J.o+i,none⟩=w.cell? ⟨J.g,J.o+i,none⟩)
  (hclass:∀ b J B,ρ b=some J→h.blks.get b=some B→J.g=I.g→B.cls=c)
  (hmin:∀ b J B C,ρ b=some J→h.blks.get b=some B→B.cls=c→h.cls.get c=some C→mv≤b→C.minv≤b)
  (hfin:∀ b J B,ρ b=some J→h.blks.get b=some B→B.cls=c→mv≤b→J.g=I.g→J.o+B.size≤I.o+size)
  (hloop:∀ (g:Nat) (o:Obj),X1l o=true→w.heap[g]?=some o→w'.heap[g]?=some o)
  (hz:I.z=none) (hobj:∀ b J B,ρ b=some J→h.blks.get b=some B→B.cls≠c→∀ o,w.heap[J.g]?=some o→w'.heap[J.g]?=some o) :
  X0f (upd ρ h.next I) { blks:=h.blks.put h.next ⟨cells,size,esz,c,false⟩,next:=h.next+1,cls:=h.cls.put c ⟨h.next,mv⟩,objs:=h.objs } w':=by
 have hext:=H.ext_upd I
 have bnew:(h.blks.put h.next (⟨cells,size,esz,c,false⟩:Blk)).get h.next=some ⟨cells,size,esz,c,false⟩:=Tr.get_put_same (by omega)
 have cnew:(h.cls.put c (⟨h.next,mv⟩:Cls)).get c=some ⟨h.next,mv⟩:=Tr.get_put_same (by omega)
 have split1:∀ b J,upd ρ h.next I b=some J→(b=h.next∧J=I)∨(b≠h.next∧ρ b=some J):=by
  intro b J e
  by_cases hb:b=h.next
  · subst hb;rw [X0M]at e;exact .inl ⟨rfl,(Option.some.inj e).symm⟩
  · rw [X0U _ _ _ hb]at e;exact .inr ⟨hb,e⟩
 have bold:∀ b,b≠h.next→(h.blks.put h.next (⟨cells,size,esz,c,false⟩:Blk)).get b=h.blks.get b:=fun b hb=>Tr.get_put_other hb
 refine⟨⟨H.nx.1.go fun k h=>hn.1 k h (H.nx.1.lt h),fun b J e=>by
  rcases split1 b J e with⟨_,rfl⟩ | ⟨_,e'⟩
  · exact hn.2
  · exact H.nx.2 b J e'⟩,?_,?_,?_,?_,?_,?_,?_,fun b L e=>Nat.lt_succ_of_lt (H.ld b L e),?_,?_,?_⟩
 ·
  intro b J e
  rcases split1 b J e with⟨rfl,rfl⟩ | ⟨hb,e'⟩
  · exact⟨_,_,bnew,cnew,by simp,he.symm,by simp;omega,Nat.le_refl _,by simp,hsz⟩
  ·
   obtain⟨B,C,d1,d2,d3,d4,d5,d6,d7,d8⟩:=H.dom b J e'
   by_cases hc:B.cls=c
   · exact⟨B,⟨h.next,mv⟩,by rw [bold b hb];exact d1,by rw [hc];exact cnew,by simp;omega,d4,by simp;omega,by simp;omega,by simp,d8⟩
   · exact⟨B,C,by rw [bold b hb];exact d1,by rw [Tr.get_put_other hc];exact d2,by simp;omega,d4,by simp;omega,d6,by simp;omega,d8⟩
 ·
  intro b J B e e2
  rcases split1 b J e with⟨rfl,rfl⟩ | ⟨hb,e'⟩
  · exact⟨hIg,hcell,fun _=>hfz⟩
  ·
   rw [bold b hb]at e2
   obtain⟨k1,k2,k3⟩:=H.img b J B e' e2
   exact⟨by omega,fun j ho hj=>(hold b J e' j hj).1 (k2 j ho hj),fun hr j ho hj=>(hold b J e' j hj).2 (k3 hr j ho hj)⟩
 ·
  intro b J B C e e2 e3 e4 i v hi hv
  rcases split1 b J e with⟨rfl,rfl⟩ | ⟨hb,e'⟩
  ·
   rw [bnew]at e2;cases e2
   exact hval i v hi hv
  ·
   rw [bold b hb]at e2
   obtain⟨B',C',d1,d2,_⟩:=H.dom b J e'
   rw [e2]at d1;cases d1
   by_cases hc:B.cls=c
   ·
    rw [hc,cnew]at e3;cases e3
    rw [hc]at d2
    have hm:=hmin b J B C' e' e2 hc d2 e4
    obtain⟨v',h1,h2⟩:=H.val b J B C' e' e2 (by rw [hc];exact d2) hm i v hi hv
    exact⟨v',by rw [hkeep b J B C' e' e2 (by rw [hc];exact d2) hm (fun _=>e4) i hi];exact h1,h2.ext hext⟩
   ·
    rw [Tr.get_put_other hc]at e3
    obtain⟨v',h1,h2⟩:=H.val b J B C e' e2 e3 e4 i v hi hv
    exact⟨v',by rw [hkeep b J B C e' e2 e3 e4 (fun x=>absurd x hc) i hi];exact h1,h2.ext hext⟩
 ·
  intro b₁ b₂ J₁ J₂ B₁ B₂ e1 e2 eg h1 h2
  rcases split1 b₁ J₁ e1 with⟨rfl,rfl⟩ | ⟨hb1,e1'⟩
  ·
   rw [bnew]at h1;cases h1
   rcases split1 b₂ J₂ e2 with⟨rfl,rfl⟩ | ⟨hb2,e2'⟩
   · rw [bnew]at h2;cases h2;rfl
   ·
    rw [bold b₂ hb2]at h2
    exact(hclass b₂ J₂ B₂ e2' h2 eg.symm).symm
  ·
   rw [bold b₁ hb1]at h1
   rcases split1 b₂ J₂ e2 with⟨rfl,rfl⟩ | ⟨hb2,e2'⟩
   ·
    rw [bnew]at h2;cases h2
    exact hclass b₁ J₁ B₁ e1' h1 eg
   ·
    rw [bold b₂ hb2]at h2
    exact H.one b₁ b₂ J₁ J₂ B₁ B₂ e1' e2' eg h1 h2
 ·
  intro b J B C K D e e2 e3 e4 e5 e6 e7
  rcases split1 b J e with⟨rfl,rfl⟩ | ⟨hb,e'⟩
  ·
   rw [bnew]at e2;cases e2
   rw [cnew]at e3;cases e3
   rw [X0M]at e5;cases e5
   rw [bnew]at e7;cases e7
   exact Nat.le_refl _
  ·
   rw [bold b hb]at e2
   obtain⟨B',C',d1,d2,d3,_,_,d6,d7,_⟩:=H.dom b J e'
   rw [e2]at d1;cases d1
   by_cases hc:B.cls=c
   ·
    rw [hc,cnew]at e3;cases e3
    simp only at e5 e7
    rw [X0M]at e5;cases e5
    rw [bnew]at e7;cases e7
    exact hfin b J B e' e2 hc e4 e6.symm
   ·
    rw [Tr.get_put_other hc]at e3
    rw [e3]at d2;cases d2
    have hne:C.top≠h.next:=by omega
    rw [X0U _ _ _ hne]at e5
    rw [bold _ hne]at e7
    exact H.fin b J B C K D e' e2 e3 e4 e5 e6 e7
 ·
  intro g B e1 e2
  by_cases hb:g=h.next
  · subst hb;rw [bnew]at e1;cases e1;cases e2
  ·
   rw [bold g hb]at e1
   obtain⟨J,j1,j2,j3⟩:=H.glob g B e1 e2
   exact⟨J,hext _ _ j1,j2,j3⟩
 ·
  intro b J L e e2
  rcases split1 b J e with⟨rfl,rfl⟩ | ⟨hb,e'⟩
  · exact absurd (H.ld _ L e2) (Nat.lt_irrefl _)
  · exact(H.lp b J L e' e2).go hext fun o n h=>hloop _ o n h
 ·
  intro b b' J J' L L' e1 e2 l1 l2 eg
  rcases split1 b J e1 with⟨rfl,rfl⟩ | ⟨hb,e1'⟩
  · exact absurd (H.ld _ L l1) (Nat.lt_irrefl _)
  ·
   rcases split1 b' J' e2 with⟨rfl,rfl⟩ | ⟨hb',e2'⟩
   · exact absurd (H.ld _ L' l2) (Nat.lt_irrefl _)
   · exact H.li b b' J J' L L' e1' e2' l1 l2 eg
 ·
  intro b J L e e2
  rcases split1 b J e with⟨rfl,rfl⟩ | ⟨hb,e'⟩
  · exact absurd (H.ld _ L e2) (Nat.lt_irrefl _)
  · exact H.lz b J L e' e2
 ·
  intro b J o T e ez
  rcases split1 b J e with⟨rfl,rfl⟩ | ⟨hb,e'⟩
  · rw [hz]at ez;cases ez
  ·
   obtain⟨s1,s2,s3,s4⟩:=H.st b J o T e' ez
   refine⟨Nat.lt_succ_of_lt s1,by rw [X0U _ _ _ (by omega)];exact s2,s3,fun B C h1 h2 ht=>?_⟩
   rw [bold b hb]at h1
   by_cases hc:B.cls=c
   ·
    rw [hc,cnew]at h2
    simp only [Option.some.injEq]at h2
    subst h2
    have ht:h.next=T:=ht
    omega
   ·
    rw [Tr.get_put_other hc]at h2
    exact hobj b J B e' h1 hc o (s4 B C h1 h2 ht)
end
end Go.Vai
namespace Go.Vai
noncomputable section
def X6O {α:Type} (P:Program):Sem α→Option α
 | .pure a=>some a
 | .program k=>X6O P (k P)
 | .mark _ k=>X6O P k
 | _=>none
theorem XA1 {α:Type} {P:Program} {a:α}:∀ (s:Sem α),X6O P s=some a→∀ w,s.run P w=.ok a w:=by
 intro s
 induction s with
 | pure b=>intro h w;simp only [X6O,Option.some.injEq]at h;subst h;rfl
 | program k ih=>intro h w;exact ih P h w
 | mark m k ih=>intro h w;exact ih h w
 | _=>intro h;simp [X6O]at h
def SP (P:Program) (ρ:Rho) (s:Sem Value) (v:Value):Prop:=∃ v',(∀ w,s.run P w=.ok v' w)∧X0N ρ v v'
theorem X0N.of_cellsPlain {ρ:Rho} {v:Value} (h:X01 v=true):X0N ρ v v:=by
 cases v with
 | agg cs=>exact .one (.agg (F2.refl _ fun a ha=>.plain (List.all_eq_true.1 h a ha)))
 | _=>exact .plain h
def X1B (P:Program) (s:Sem Value):Option Value :=
 match X6O P s with
 | some v=>match X01 v with
  | true=>some v
  | false=>none
 | none=>none
theorem X0i {P:Program} {ρ:Rho} {s:Sem Value} {v:Value} (h:X1B P s=some v):SP P ρ s v:=by
 unfold X1B at h
 split at h
 ·
  rename_i u hu
  split at h
  ·
   rename_i hp
   cases h
   exact⟨v,XA1 s hu,.of_cellsPlain hp⟩
  · cases h
 · cases h
theorem X00 {P:Program} {t:TypeId} {d:TypeDesc} (h:P.underlying t=some d) (w:World):(underlying t).run P w=.ok d w:=by
 simp only [underlying,Sem.run_bind,run_program,Result.andThen_ok,h];rfl
theorem X0Q {P:Program} {t:TypeId} {i:TypeInfo} (h:P.info? t=some i) (w:World):(typeInfo t).run P w=.ok i w:=by
 simp only [typeInfo,Sem.run_bind,run_program,Result.andThen_ok,h];rfl
theorem X5W {P:Program} {t:TypeId} {i:TypeInfo} (h:P.info? t=some i) (w:World):(sizeOf t).run P w=.ok i.size w:=by
 simp only [sizeOf,Sem.run_bind,X0Q h,Result.andThen_ok];rfl
def sz (P:Program) (t:TypeId):Option Nat:=match P.info? t with
 | some i=>some i.size
 | none=>none
theorem X0g {P:Program} {t:TypeId} {n:Nat} (h:sz P t=some n) (w:World):(sizeOf t).run P w=.ok n w:=by
 unfold sz at h
 split at h
 · rename_i i hi;cases h;exact X5W hi w
 · cases h
def X0Z (P:Program) (s:TypeId) (x:Value) (f:Nat):Option Value :=
 match P.underlying s with
 | some (.struct fields)=>match fields[f]? with
  | some fd=>match x with
   | .pointer (some ⟨b,i,none⟩)=>match sz P fd.type with
    | some (_+1)=>some (.pointer (some ⟨b,i+fd.offset,none⟩))
    | _=>none
   | _=>none
  | none=>none
 | _=>none
theorem X0N.leaf {ρ:Rho} {v v':Value} (r:X0N ρ v v') (h1:∀ cs,v≠.agg cs) (h2:∀ cs,v≠.tuple cs):X13 ρ v v':=by
 cases r with
 | one k=>cases k with
  | one k=>exact k
  | agg k=>exact absurd rfl (h1 _)
 | tuple k=>exact absurd rfl (h2 _)
theorem X0N.ptr_inv {ρ:Rho} {b i:Nat} {v':Value} (r:X0N ρ (.pointer (some ⟨b,i,none⟩)) v'):∃ I,ρ b=some I∧v'=.pointer (some ⟨I.g,I.o+i,none⟩):=by
 have:=r.leaf (by simp) (by simp)
 cases this with
 | plain h=>simp [X03]at h
 | ptr h=>exact⟨_,h,rfl⟩
theorem X0N.slice_inv {ρ:Rho} {b i n c:Nat} {v':Value} (r:X0N ρ (.slice (some ⟨b,i,none⟩) n c) v') :
  (∃ I c',ρ b=some I∧v'=.slice (some ⟨I.g,I.o+i,none⟩) n c'∧n≤c∧c≤c'∧I.o+i+c'*I.e≤I.m)∨(n=0∧c=0∧∃ a',v'=.slice (some a') 0 0):=by
 have:=r.leaf (by simp) (by simp)
 cases this with
 | plain h=>simp [X03]at h
 | slice h hn hc hm=>exact .inl ⟨_,_,h,rfl,hn,hc,hm⟩
 | sliceE=>exact .inr ⟨rfl,rfl,_,rfl⟩
theorem X0N.ptr {ρ:Rho} {b i:Nat} {I:Img} (h:ρ b=some I):X0N ρ (.pointer (some ⟨b,i,none⟩)) (.pointer (some ⟨I.g,I.o+i,none⟩)):=.one (.one (.ptr h))
theorem X4i {P:Program} {ρ:Rho} {s:TypeId} {x x' v:Value} {f:Nat} (h:X0Z P s x f=some v) (r:X0N ρ x x'):SP P ρ (Instr.fieldAt s x' f) v:=by
 unfold X0Z at h
 split at h
 case h_2=>cases h
 rename_i fields hu
 split at h
 case h_2=>cases h
 rename_i fd hf
 split at h
 case h_2=>cases h
 rename_i b i
 split at h
 case h_2=>cases h
 rename_i n hz
 cases h
 obtain⟨I,hb,rfl⟩:=r.ptr_inv
 refine⟨.pointer (some ⟨I.g,I.o+i+fd.offset,none⟩),fun w=>?_,?_⟩
 ·
  simp only [Instr.fieldAt,Sem.run_bind,X00 hu,Result.andThen_ok,hf,Instr.sureAddr,Sem.run_pure,fieldPlace,X0g hz]
  simp [X24]
 · rw [Nat.add_assoc];exact .ptr hb
def X1m (P:Program) (t:TypeId) (x ix:Value):Option Value :=
 match ix with
 | .int _ j=>match x with
  | .slice (some ⟨b,i,none⟩) n _=>match P.underlying t with
   | some (.slice elem)=>match sz P elem with
    | some e=>match decide (0≤j) && decide (j<n)with
     | true=>some (.pointer (some ⟨b,i+j.toNat*e,none⟩))
     | false=>none
    | none=>none
   | _=>none
  | .pointer (some ⟨b,i,none⟩)=>match P.underlying t with
   | some (.array n elem)=>match sz P elem with
    | some e=>match decide (0≤j) && decide (j<n)with
     | true=>some (.pointer (some ⟨b,i+j.toNat*e,none⟩))
     | false=>none
    | none=>none
   | _=>none
  | _=>none
 | _=>none
theorem X4j {P:Program} {ρ:Rho} {t:TypeId} {x x' ix ix' v:Value} (h:X1m P t x ix=some v) (r:X0N ρ x x') (ri:X0N ρ ix ix'):SP P ρ (Instr.indexAt t x' ix') v:=by
 unfold X1m at h
 split at h
 case h_2=>cases h
 rename_i k j
 have:=ri.eq_of_plain rfl
 subst this
 split at h
 ·
  rename_i b i n c
  split at h
  case h_2=>cases h
  rename_i elem hu
  split at h
  case h_2=>cases h
  rename_i e he
  split at h
  case h_2=>cases h
  rename_i hj
  simp only [Bool.and_eq_true,decide_eq_true_eq]at hj
  cases h
  rcases r.slice_inv with⟨I,c',hb,rfl,hn,hc,hm⟩ | ⟨rfl,_,_⟩
  ·
   refine⟨.pointer (some ⟨I.g,I.o+i+j.toNat*e,none⟩),fun w=>?_,?_⟩
   ·
    simp only [Instr.indexAt,Sem.run_bind,asIntOf,Sem.run_pure,Result.andThen_ok,X00 hu]
    simp [hj.1,hj.2,X0g he,X24]
   · rw [Nat.add_assoc];exact .ptr hb
  · omega
 ·
  rename_i b i
  split at h
  case h_2=>cases h
  rename_i n elem hu
  split at h
  case h_2=>cases h
  rename_i e he
  split at h
  case h_2=>cases h
  rename_i hj
  simp only [Bool.and_eq_true,decide_eq_true_eq]at hj
  cases h
  obtain⟨I,hb,rfl⟩:=r.ptr_inv
  refine⟨.pointer (some ⟨I.g,I.o+i+j.toNat*e,none⟩),fun w=>?_,?_⟩
  ·
   simp only [Instr.indexAt,Sem.run_bind,asIntOf,Sem.run_pure,Result.andThen_ok,X00 hu]
   simp [Instr.sureAddr,hj.1,hj.2,X0g he,X24]
  · rw [Nat.add_assoc];exact .ptr hb
 · cases h
def X0j:Option Value→Nat→Option Nat
 | none,d=>some d
 | some (.int _ j),_=>match decide (0≤j)with
  | true=>some j.toNat
  | false=>none
 | _,_=>none
def XCG:Value:=.slice (some ⟨0,0,some 0⟩) 0 0
def X5X (P:Program) (h:Heap) (t:TypeId) (x:Value) (lo:Option Value) (hv m:Value):Option Value :=
 match P.underlying t with
 | some (.slice elem)=>match sz P elem,X0j lo 0,X0j (some hv) 0,X0j (some m) 0 with
  | some e,some l,some u,some k=>match Nat.ble l u && Nat.ble u k with
   | true=>match x with
    | .slice none 0 0=>match Nat.beq k 0 with
     | true=>some x
     | false=>none
    | .slice (some ⟨_,_,some _⟩) 0 0=>match Nat.beq k 0 with
     | true=>some XCG
     | false=>none
    | .slice (some ⟨b,i,none⟩) _ c=>match h.blks.get b with
     | some B=>match Nat.ble k c && Nat.beq B.esz e with
      | true=>match Nat.beq k l with
       | true=>some XCG
       | false=>some (.slice (some ⟨b,i+l*e,none⟩) (u - l) (k - l))
      | false=>none
     | none=>none
    | _=>none
   | false=>none
  | _,_,_,_=>none
 | _=>none
def X20 (P:Program) (h:Heap) (t:TypeId) (x:Value) (lo hi mx:Option Value):Option Value :=
 match mx with
 | some m=>match hi with
  | some hv=>X5X P h t x lo hv m
  | none=>none
 | none=>match x with
  | .slice (some ⟨_,_,some _⟩) 0 0=>match P.underlying t with
   | some (.slice elem)=>match sz P elem,X0j lo 0,X0j hi 0 with
    | some _,some 0,some 0=>some XCG
    | _,_,_=>none
   | _=>none
  | .string _=>match lo,hi with
   | none,none=>X1B P (Instr.sliceAt t x none none none)
   | some (.int k j),none=>X1B P (Instr.sliceAt t x (some (.int k j)) none none)
   | none,some (.int k j)=>X1B P (Instr.sliceAt t x none (some (.int k j)) none)
   | some (.int k j),some (.int k' j')=>X1B P (Instr.sliceAt t x (some (.int k j)) (some (.int k' j')) none)
   | _,_=>none
  | .slice none 0 0=>match P.underlying t with
   | some (.slice elem)=>match sz P elem,X0j lo 0,X0j hi 0 with
    | some _,some 0,some 0=>some x
    | _,_,_=>none
   | _=>none
  | .slice (some ⟨b,i,none⟩) n c=>match P.underlying t with
   | some (.slice elem)=>match sz P elem,X0j lo 0,X0j hi n,h.blks.get b with
    | some e,some l,some u,some B=>match Nat.ble l u && Nat.ble u c && Nat.beq B.esz e with
     | true=>some (.slice (some ⟨b,i+l*e,none⟩) (u - l) (c - l))
     | false=>none
    | _,_,_,_=>none
   | _=>none
  | _=>none
theorem X94 {d n:Nat} (h:X0j none d=some n):n=d:=by simp [X0j]at h;exact h.symm
theorem X28 {o:Option Value} {d n:Nat} (h:X0j o d=some n):(o=none∧n=d)∨∃ k j,o=some (.int k j)∧0≤j∧n=j.toNat:=by
 cases o with
 | none=>exact .inl ⟨rfl,X94 h⟩
 | some v =>
  cases v<;>simp only [X0j]at h<;>try cases h
  rename_i k j
  split at h
  · rename_i hj;cases h;exact .inr ⟨k,j,rfl,by simpa using hj,rfl⟩
  · cases h
def XB0 (ρ:Rho) (o o':Option Value):Prop:=match o,o' with
 | none,none=>True
 | some v,some v'=>X0N ρ v v'
 | _,_=>False
theorem XB0.none_inv {ρ:Rho} {o':Option Value} (r:XB0 ρ none o'):o'=none:=by
 cases o' with
 | none=>rfl
 | some v=>exact r.elim
theorem XB0.int_inv {ρ:Rho} {k:IntKind} {j:Int} {o':Option Value} (r:XB0 ρ (some (.int k j)) o'):o'=some (.int k j):=by
 cases o' with
 | none=>exact r.elim
 | some v=>have:=X0N.eq_of_plain r rfl;rw [this]
theorem X0a {P:Program} {w:World} {k:IntKind} {j:Int} {y:Nat} {code:BoundsCode} (h0:0≤j) (h1:j≤y):(Instr.sliceBound (.int k j) y code).run P w=.ok j.toNat w:=by
 simp [Instr.sliceBound,asIntOf,h0,h1]
theorem X1Z {P:Program} {w:World} {ρ:Rho} {sl:Bool} {n c l u:Nat} {lo hi lo' hi':Option Value} (hl:X0j lo 0=some l) (hu:X0j hi n=some u) (rl:XB0 ρ lo lo') (rh:XB0 ρ hi hi') (h1:l≤u) (h2:u≤c) :
  (Instr.sliceBounds sl n c lo' hi' none).run P w=.ok (l,u,c) w:=by
 rcases X28 hl with⟨rfl,rfl⟩ | ⟨k,j,rfl,hj,rfl⟩
 ·
  have:=rl.none_inv;subst this
  rcases X28 hu with⟨rfl,rfl⟩ | ⟨k',j',rfl,hj',rfl⟩
  ·
   have:=rh.none_inv;subst this
   simp [Instr.sliceBounds]
  ·
   have:=rh.int_inv;subst this
   simp only [Instr.sliceBounds,Sem.run_bind,Sem.run_pure,Result.andThen_ok]
   rw [X0a hj' (by omega)]
   simp
 ·
  have:=rl.int_inv;subst this
  rcases X28 hu with⟨rfl,rfl⟩ | ⟨k',j',rfl,hj',rfl⟩
  ·
   have:=rh.none_inv;subst this
   simp only [Instr.sliceBounds,Sem.run_bind,Sem.run_pure,Result.andThen_ok]
   rw [X0a hj (by omega)]
   simp
  ·
   have:=rh.int_inv;subst this
   simp only [Instr.sliceBounds,Sem.run_bind,Sem.run_pure,Result.andThen_ok]
   rw [X0a hj' (by omega)]
   simp only [Result.andThen_ok]
   rw [X0a hj (by omega)]
   simp
theorem X1O {P:Program} {w:World} {ρ:Rho} {sl:Bool} {n c l u k:Nat} {lo lo':Option Value} {hv hv' m m':Value} (hl:X0j lo 0=some l) (hu:X0j (some hv) 0=some u) (hm:X0j (some m) 0=some k)
  (rl:XB0 ρ lo lo') (rh:X0N ρ hv hv') (rm:X0N ρ m m') (h1:l≤u) (h2:u≤k) (h3:k≤c) :
  (Instr.sliceBounds sl n c lo' (some hv') (some m')).run P w=.ok (l,u,k) w:=by
 rcases X28 hm with⟨h,_⟩ | ⟨km,jm,hme,hjm,rfl⟩
 · cases h
 cases hme
 have:=rm.eq_of_plain rfl;subst this
 rcases X28 hu with⟨h,_⟩ | ⟨ku,ju,hue,hju,rfl⟩
 · cases h
 cases hue
 have:=rh.eq_of_plain rfl;subst this
 rcases X28 hl with⟨rfl,rfl⟩ | ⟨kl,jl,rfl,hjl,rfl⟩
 ·
  have:=rl.none_inv;subst this
  simp only [Instr.sliceBounds,Sem.run_bind]
  rw [X0a hjm (by omega)]
  simp only [Result.andThen_ok,Sem.run_bind]
  rw [X0a hju (by omega)]
  simp
 ·
  have:=rl.int_inv;subst this
  simp only [Instr.sliceBounds,Sem.run_bind]
  rw [X0a hjm (by omega)]
  simp only [Result.andThen_ok,Sem.run_bind]
  rw [X0a hju (by omega)]
  simp only [Result.andThen_ok,Sem.run_bind]
  rw [X0a hjl (by omega)]
  simp
theorem X0N.mark_inv {ρ:Rho} {b i k n c:Nat} {v':Value} (r:X0N ρ (.slice (some ⟨b,i,some k⟩) n c) v'):n=0∧c=0∧∃ a',v'=.slice (some a') 0 0:=by
 have:=r.leaf (by simp) (by simp)
 cases this with
 | plain h=>simp [X03]at h
 | sliceE=>exact⟨rfl,rfl,_,rfl⟩
theorem X79 {P:Program} {ρ:Rho} {hp:Heap} {w0:World} (H:X0f ρ hp w0) {t:TypeId} {x x' v hv m hv' m':Value} {lo lo':Option Value} (h:X5X P hp t x lo hv m=some v)
  (r:X0N ρ x x') (rl:XB0 ρ lo lo') (rh:X0N ρ hv hv') (rm:X0N ρ m m'):SP P ρ (Instr.sliceAt t x' lo' (some hv') (some m')) v:=by
 unfold X5X at h
 split at h
 case h_2=>cases h
 rename_i elem hu
 split at h
 case h_2=>cases h
 rename_i e l u k he hl hh hm
 split at h
 case h_2=>cases h
 rename_i hck
 simp only [Bool.and_eq_true,Nat.ble_eq]at hck
 split at h
 ·
  split at h
  case h_2=>cases h
  rename_i hk
  have hk:k=0:=Nat.eq_of_beq_eq_true hk
  subst hk
  cases h
  have:=r.eq_of_plain rfl;subst this
  refine⟨.slice none 0 0,fun w=>?_,.plain rfl⟩
  simp only [Instr.sliceAt,Sem.run_bind,X00 hu,Result.andThen_ok,Instr.slice]
  rw [X1O hl hh hm rl rh rm hck.1 hck.2 (Nat.le_refl _)]
  have h1:u=0:=by omega
  have h2:l=0:=by omega
  subst h1 h2
  simp [X0g he]
 ·
  split at h
  case h_2=>cases h
  rename_i hk
  have hk:k=0:=Nat.eq_of_beq_eq_true hk
  subst hk
  cases h
  obtain⟨_,_,a',rfl⟩:=r.mark_inv
  refine⟨.slice (some a') 0 0,fun w=>?_,.one (.one .sliceE)⟩
  simp only [Instr.sliceAt,Sem.run_bind,X00 hu,Result.andThen_ok,Instr.slice]
  rw [X1O hl hh hm rl rh rm hck.1 hck.2 (Nat.le_refl _)]
  have h1:u=0:=by omega
  have h2:l=0:=by omega
  subst h1 h2
  simp [X0g he]
 ·
  rename_i b i n c
  split at h
  case h_2=>cases h
  rename_i B hB
  split at h
  case h_2=>cases h
  rename_i hc
  simp only [Bool.and_eq_true,Nat.ble_eq]at hc
  have hes:B.esz=e:=Nat.eq_of_beq_eq_true hc.2
  rcases r.slice_inv with⟨I,c',hb,rfl,hn,hcc,hmm⟩ | ⟨rfl,rfl,a',rfl⟩
  ·
   obtain⟨B',C,d1,_,_,d4,_⟩:=H.dom b I hb
   rw [hB]at d1;cases d1
   have run:∀ w,(Instr.sliceAt t (.slice (some ⟨I.g,I.o+i,none⟩) n c') lo' (some hv') (some m')).run P w=.ok (.slice (if k=l then some ⟨I.g,I.o+i,none⟩else some ⟨I.g,I.o+i+l*e,none⟩) (u - l) (k - l)) w:=fun w=>by
    simp only [Instr.sliceAt,Sem.run_bind,X00 hu,Result.andThen_ok,Instr.slice]
    rw [X1O hl hh hm rl rh rm hck.1 hck.2 (by omega)]
    simp [X0g he,X24]
   split at h
   ·
    rename_i hkl
    have hkl:k=l:=Nat.eq_of_beq_eq_true hkl
    cases h
    refine⟨_,run,?_⟩
    rw [if_pos hkl]
    have e1:u - l=0:=by omega
    have e2:k - l=0:=by omega
    rw [e1,e2]
    exact .one (.one .sliceE)
   ·
    rename_i hkl
    have hkl:k≠l:=fun x=>by subst x;simp at hkl
    cases h
    refine⟨_,run,?_⟩
    rw [if_neg hkl,Nat.add_assoc]
    refine .one (.one (.slice hb (by omega) (Nat.le_refl _) ?_))
    rw [← d4,hes]at hmm ⊢
    have h1:k*e=l*e+(k - l)*e:=by rw [← Nat.add_mul];congr 1;omega
    have h2:k*e≤c'*e:=Nat.mul_le_mul_right _ (by omega)
    omega
  ·
   have hk0:k=0:=by omega
   have hl0:l=0:=by omega
   have hu0:u=0:=by omega
   subst hk0 hl0 hu0
   simp only [Nat.beq_eq,if_true]at h
   have hv:v=XCG:=by
    revert h;simp [Nat.beq];exact fun x=>x.symm
   subst hv
   refine⟨.slice (some a') 0 0,fun w=>?_,.one (.one .sliceE)⟩
   simp only [Instr.sliceAt,Sem.run_bind,X00 hu,Result.andThen_ok,Instr.slice]
   rw [X1O hl hh hm rl rh rm (Nat.le_refl _) (Nat.le_refl _) (Nat.le_refl _)]
   simp [X0g he]
 · cases h
theorem X7q {P:Program} {ρ:Rho} {hp:Heap} {w0:World} (H:X0f ρ hp w0) {t:TypeId} {x x' v:Value} {lo hi mx lo' hi' mx':Option Value} (h:X20 P hp t x lo hi mx=some v)
  (r:X0N ρ x x') (rl:XB0 ρ lo lo') (rh:XB0 ρ hi hi') (rm:XB0 ρ mx mx'):SP P ρ (Instr.sliceAt t x' lo' hi' mx') v:=by
 unfold X20 at h
 split at h
 ·
  rename_i m
  split at h
  case h_2=>cases h
  rename_i hv
  cases mx' with
  | none=>exact rm.elim
  | some m'=>cases hi' with
   | none=>exact rh.elim
   | some hv'=>exact X79 H h r rl rh rm
 have:=rm.none_inv;subst this
 split at h
 ·
  obtain⟨_,_,a',rfl⟩:=r.mark_inv
  split at h
  case h_2=>cases h
  rename_i elem hu
  split at h
  case h_2=>cases h
  rename_i e he hl hh
  cases h
  refine⟨.slice (some a') 0 0,fun w=>?_,.one (.one .sliceE)⟩
  simp only [Instr.sliceAt,Sem.run_bind,X00 hu,Result.andThen_ok,Instr.slice]
  rw [X1Z hl hh rl rh (Nat.le_refl _) (Nat.le_refl _)]
  simp [X0g he]
 ·
  rename_i s
  have:=r.eq_of_plain rfl;subst this
  split at h
  · have:=rl.none_inv;subst this;have:=rh.none_inv;subst this;exact X0i h
  · have:=rl.int_inv;subst this;have:=rh.none_inv;subst this;exact X0i h
  · have:=rl.none_inv;subst this;have:=rh.int_inv;subst this;exact X0i h
  · have:=rl.int_inv;subst this;have:=rh.int_inv;subst this;exact X0i h
  · cases h
 ·
  have:=r.eq_of_plain rfl;subst this
  split at h
  case h_2=>cases h
  rename_i elem hu
  split at h
  case h_2=>cases h
  rename_i e he hl hh
  cases h
  refine⟨.slice none 0 0,fun w=>?_,.plain rfl⟩
  simp only [Instr.sliceAt,Sem.run_bind,X00 hu,Result.andThen_ok,Instr.slice]
  rw [X1Z hl hh rl rh (Nat.le_refl _) (Nat.le_refl _)]
  simp [X0g he]
 ·
  rename_i b i n c
  split at h
  case h_2=>cases h
  rename_i elem hu
  split at h
  case h_2=>cases h
  rename_i e l u B he hl hh hB
  split at h
  case h_2=>cases h
  rename_i hc
  simp only [Bool.and_eq_true,Nat.ble_eq]at hc
  obtain⟨⟨hlu,huc⟩,hes⟩:=hc
  have hes:B.esz=e:=Nat.eq_of_beq_eq_true hes
  cases h
  rcases r.slice_inv with⟨I,c',hb,rfl,hn,hcc,hm⟩ | ⟨rfl,rfl,a',rfl⟩
  ·
   obtain⟨B',C,d1,_,_,d4,_⟩:=H.dom b I hb
   rw [hB]at d1;cases d1
   refine⟨.slice (if c'=l then some ⟨I.g,I.o+i,none⟩else some ⟨I.g,I.o+i+l*e,none⟩) (u - l) (c' - l),fun w=>?_,?_⟩
   ·
    simp only [Instr.sliceAt,Sem.run_bind,X00 hu,Result.andThen_ok,Instr.slice]
    rw [X1Z hl hh rl rh hlu (Nat.le_trans huc hcc)]
    simp [X0g he,X24]
   ·
    by_cases hcl:c'=l
    ·
     rw [if_pos hcl]
     have e1:u - l=0:=by omega
     have e2:c - l=0:=by omega
     have e3:c' - l=0:=by omega
     rw [e1,e2,e3]
     exact .one (.one .sliceE)
    ·
     rw [if_neg hcl,Nat.add_assoc]
     refine .one (.one (.slice hb (by omega) (by omega) ?_))
     rw [← d4,hes]at hm ⊢
     have:c'*e=l*e+(c' - l)*e:=by rw [← Nat.add_mul];congr 1;omega
     omega
  ·
   refine⟨.slice (some a') 0 0,fun w=>?_,?_⟩
   ·
    simp only [Instr.sliceAt,Sem.run_bind,X00 hu,Result.andThen_ok,Instr.slice]
    have hu0:u=0:=by omega
    have hl0:l=0:=by omega
    subst hu0 hl0
    rw [X1Z hl hh rl rh (Nat.le_refl _) (Nat.le_refl _)]
    simp [X0g he]
   ·
    have e1:u - l=0:=by omega
    rw [e1,Nat.zero_sub]
    exact .one (.one .sliceE)
 · cases h
end
end Go.Vai

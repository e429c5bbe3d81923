/-
  What is proved here: lines of cells, and a place, that are read in a world of this program; that they are not Go's own tables. No conditions.
-/
import Derived.Test.YtfcadnhoejlgoaaGreatDoorNX
import Derived.Test.YtfcadnhoejlgoaaGreatDoorRows
import Derived.Test.YtfcadnhoejlgoaaGreatDoorProg
import Derived.Deep.Slices
import Derived.KernelRfl
set_option linter.unusedVariables false
set_option linter.unusedSimpArgs false
set_option maxRecDepth 100000
namespace Go.Proofs.YtfcadnhoejlgoaaGreatDoor
open Go.Vai Go.Nfa Go.Deep Go.ChangeShapes Go.WideShapes
noncomputable section
variable {H:Type} {enc:TypeId×Value→H} {W:World}
noncomputable def XKs:Value→Bool
 | .int .u8 _=>true
 | _=>false
theorem XGB {a:Addr} {n:Nat} {qs:List MemPlace} (h:W.noneFrozen (MemPlace.row a n++qs)) {j:Nat} (hj:j<n):W.frozen? ⟨a.block,a.off+j,none⟩=false :=
 h a.block (a.off+j) (List.mem_append.2 (.inl (by unfold MemPlace.row;exact List.mem_map.2 ⟨j,List.mem_range.2 hj,rfl⟩)))
theorem XBH {ps qs:List MemPlace} (h:W.noneFrozen ps) (s:∀ p∈qs,p∈ps):W.noneFrozen qs:=fun b off hm=>h b off (s _ hm)
theorem XGC {a:Addr} {n:Nat} {cs:List Value} (h:W.cells? 0 a n=some cs):cs.length=n∧∀ (j:Nat) v,cs[j]?=some v→W.cell? (a.add j)=some v:=by
 obtain⟨_,h2,h3⟩:=World.cells?_some h
 exact⟨h2,fun j v e=>by
  have hj:=(List.getElem?_eq_some_iff.1 e).1
  have:=h3 j (by omega)
  rw [this,e]⟩
theorem XGD {a:Addr} (hs:a.spot=none) (j:Nat):a.add j=⟨a.block,a.off+j,none⟩:=by
 obtain⟨b,o,sp⟩:=a
 simp only at hs
 subst hs
 unfold Addr.add
 split
 · rename_i h;subst h;rfl
 · rfl
theorem X91 {a:Addr} {v:Value} (h:W.cell? a=some v):a.spot=none:=by
 unfold World.cell? at h
 split at h
 ·
  split at h
  · cases h
  ·
   rename_i hs;cases hsp:a.spot with
   | none=>rfl
   | some x=>rw [hsp]at hs;simp at hs
 · cases h
theorem XGE {E:Nat} (hE:0<E) {f:Nat→List Value} {n:Nat} (hf:∀ i,i<n→(f i).length=E) {j:Nat} (hj:j<n*E):((List.range n).flatMap f)[j]?=(f (j / E))[j % E]?:=by
 induction n with
 | zero=>omega
 | succ n ih =>
  have hlen:((List.range n).flatMap f).length=n*E:=by
   clear ih hj
   induction n with
   | zero=>simp
   | succ n ih2 =>
    rw [List.range_succ,List.flatMap_append,List.length_append,ih2 (fun i hi=>hf i (by omega))]
    simp [hf n (by omega),Nat.add_mul]
  rw [List.range_succ,List.flatMap_append]
  by_cases h:j<n*E
  ·
   rw [List.getElem?_append_left (by omega)]
   exact ih (fun i hi=>hf i (by omega)) h
  ·
   rw [List.getElem?_append_right (by omega),hlen]
   have hd:j / E=n:=by
    rw [Nat.add_mul]at hj
    exact Nat.div_eq_of_lt_le (by omega) (by rw [Nat.add_mul];omega)
   have hm:j % E=j - n*E:=by
    have:=Nat.div_add_mod j E
    rw [hd,Nat.mul_comm]at this
    omega
   rw [hd,hm];simp
theorem X6B {E:Nat} {f:Nat→List Value} {n:Nat} (hf:∀ i,i<n→(f i).length=E):((List.range n).flatMap f).length=n*E:=by
 induction n with
 | zero=>simp
 | succ n ih =>
  rw [List.range_succ,List.flatMap_append,List.length_append,ih (fun i hi=>hf i (by omega))]
  simp [hf n (by omega),Nat.add_mul]
theorem XBI {t e:TypeId} {E fuel:Nat} (hE:Tryz.prog.cellsOf e=E) (h0:0<E) (ht:Tryz.prog.underlying t=some (.slice e)) {cs:List Value} {d:DataW H} {ps:List MemPlace}
  (h:DataW.trod enc Tryz.prog W 0 (fun _=>true) true fuel t cs=some (d,ps)) (hf:W.noneFrozen ps)
  (hU:∀ (a:Addr) v,Vai.TG a.block→W.cell? a=some v→XKs v=true) (hN:∀ n c d ps,DataW.trod enc Tryz.prog W 0 (fun _=>true) true n e c=some (d,ps)→∀ v,c[0]?=some v→XKs v=false) :
  (cs=[.slice none 0 0]∧d=.nil)∨∃ (a:Addr) (len cap n:Nat) (D:Nat→DataW H) (Pl:Nat→List MemPlace) (CS:Nat→List Value) (rest:List (DataW H)),cs=[.slice (some a) len cap]∧d=.slice ((List.range len).map D) rest ∧
   (∀ i,i<len→DataW.trod enc Tryz.prog W 0 (fun _=>true) true n e (CS i)=some (D i,Pl i)∧W.noneFrozen (Pl i))∧XDj W (some (a,cap)) E len ((List.range len).flatMap CS):=by
 rcases open_slice ht h with⟨h1,h2⟩ | ⟨a,len,cap,m,n,D,Pl,rfl,_,hl,_,hm,hx,he⟩
 · cases h2;exact .inl ⟨h1,rfl⟩
 ·
  right
  have hm:m=cap:=hm.trans (if_pos rfl)
  subst hm
  simp only [Prod.mk.injEq]at hx
  obtain⟨rfl,rfl⟩:=hx
  obtain⟨CS,hC⟩:=choose_lt (α:=List Value) (p:=fun i c=>W.cells? 0 (a.add (i*Tryz.prog.cellsOf e)) (Tryz.prog.cellsOf e)=some c∧DataW.trod enc Tryz.prog W 0 (fun _=>true) true n e c=some (D i,Pl i)) he
  rw [hE]at hC hf
  have hat:∀ i,i<m→(CS i).length=E∧∀ (j:Nat) v,(CS i)[j]?=some v→W.cell? ((a.add (i*E)).add j)=some v:=fun i hi=>XGC (hC i hi).1
  refine⟨a,len,m,n,D,Pl,CS,_,rfl,rfl,fun i hi=>⟨(hC i (by omega)).2,XBH hf fun p hp=>List.mem_append.2 (.inr (List.mem_flatMap.2 ⟨i,List.mem_range.2 (by omega),hp⟩))⟩,?_,hl,?_⟩
  · exact X6B fun i hi=>(hat i (by omega)).1
  ·
   by_cases hc:m=0
   · exact .inl hc
   ·
    right
    have hsp:a.spot=none:=by
     obtain⟨q1,q2⟩:=hat 0 (by omega)
     have:=q2 0 _ (List.getElem?_eq_getElem (by omega))
     rw [Nat.zero_mul]at this
     have e1:(a.add 0).add 0=a:=by unfold Addr.add;simp
     rw [e1]at this
     exact X91 this
    have cell:∀ i j v,i<m→(CS i)[j]?=some v→W.cell? ⟨a.block,a.off+(i*E+j),none⟩=some v:=fun i j v hi hj=>by
     have:=(hat i hi).2 j v hj
     rw [add_add,XGD hsp]at this
     exact this
    refine⟨fun tg=>?_,hsp,fun j hj=>⟨?_,XGB hf hj⟩,fun j v hv=>?_⟩
    ·
     obtain⟨q1,q2⟩:=hat 0 (by omega)
     have hc0:=List.getElem?_eq_getElem (l:=CS 0) (i:=0) (by omega)
     have k1:=hN _ _ _ _ (hC 0 (by omega)).2 _ hc0
     have k2:=hU ⟨a.block,a.off+(0*E+0),none⟩ _ tg (cell 0 0 _ (by omega) hc0)
     rw [k1]at k2;cases k2
    ·
     have hd:j / E<m:=Nat.div_lt_of_lt_mul (by rw [Nat.mul_comm];exact hj)
     have hr:j % E<E:=Nat.mod_lt _ h0
     have hlen:=(hat _ hd).1
     have hc2:=cell (j / E) (j % E) _ hd (List.getElem?_eq_getElem (show j % E<(CS (j / E)).length by omega))
     rw [Nat.mul_comm,Nat.div_add_mod]at hc2
     exact⟨_,hc2⟩
    ·
     have hj:=(List.getElem?_eq_some_iff.1 hv).1
     rw [X6B fun i hi=>(hat i (by omega)).1]at hj
     rw [XGE h0 (fun i hi=>(hat i (by omega)).1) hj]at hv
     have hd:j / E<len:=Nat.div_lt_of_lt_mul (by rw [Nat.mul_comm];exact hj)
     have:=cell (j / E) (j % E) v (by omega) hv
     rw [Nat.mul_comm,Nat.div_add_mod]at this
     exact this
theorem XAN {cs:List Value} {o:Nat} {v:Value} (h:(cs.drop o).take 1=[v]):cs[o]?=some v:=by
 have:=congrArg (fun l=>l[0]?) h
 simpa[List.getElem?_take,List.getElem?_drop]using this
noncomputable def fieldsOf (t:TypeId):List (TypeId×Nat):=match Tryz.prog.underlying t with
 | some (.struct fs)=>fs.toList.map fun f=>(f.type,f.offset)
 | _=>[]
theorem XAO {t:TypeId} {L:List (TypeId×Nat)} (hL:fieldsOf t=L) (hne:L≠[]) {fuel:Nat} {cs:List Value} {d:DataW H} {ps:List MemPlace} (h:DataW.trod enc Tryz.prog W 0 (fun _=>true) true fuel t cs=some (d,ps)) :
  ∃ (xs:List (DataW H×List MemPlace)) (n:Nat),fuel=n+1∧d=.agg (xs.map (·.1))∧ps=xs.flatMap (·.2)∧cs.length=Tryz.prog.cellsOf t ∧
   ∀ (i:Nat) p,L[i]?=some p→∃ y,xs[i]?=some y∧DataW.trod enc Tryz.prog W 0 (fun _=>true) true n p.1 ((cs.drop p.2).take (Tryz.prog.cellsOf p.1))=some y:=by
 unfold fieldsOf at hL
 split at hL
 case h_2=>exact absurd hL.symm hne
 rename_i fs hu
 obtain⟨xs,n,e1,e2,e3,e4,e5⟩:=DataW.trod_struct hu h
 simp only [Prod.mk.injEq]at e2
 refine⟨xs,n,e1,e2.1,e2.2,e3,fun i p hp=>?_⟩
 rw [← hL,List.getElem?_map]at hp
 obtain⟨f,hf,rfl⟩:=Option.map_eq_some_iff.1 hp
 have hf':fs[i]?=some f:=by simpa using hf
 have:=e5 i f hf'
 have hi:i<xs.length:=by rw [e4];exact(Array.getElem?_eq_some_iff.1 hf').1
 exact⟨xs[i],List.getElem?_eq_getElem hi,by rw [this];exact List.getElem?_eq_getElem hi⟩
theorem XGF:fieldsOf 62=[(21,0),(3,1),(3,2)]:=by kernel_rfl
theorem c3:Tryz.prog.cellsOf 3=1:=by kernel_rfl
theorem c21:Tryz.prog.cellsOf 21=1:=by kernel_rfl
theorem c53:Tryz.prog.cellsOf 53=1:=by kernel_rfl
theorem c62:Tryz.prog.cellsOf 62=3:=by kernel_rfl
theorem u3:Tryz.prog.underlying 3=some (.int .i64):=by kernel_rfl
theorem u21:Tryz.prog.underlying 21=some (.int .i32):=by kernel_rfl
theorem u41:Tryz.prog.underlying 41=some (.slice 53):=by kernel_rfl
theorem u53:Tryz.prog.underlying 53=some (.slice 62):=by kernel_rfl
theorem three {cs:List Value} (h:cs.length=3) {a b c:Value} (h0:cs[0]?=some a) (h1:cs[1]?=some b) (h2:cs[2]?=some c):cs=[a,b,c]:=by
 match cs,h with
 | [x0,x1,x2],_=>simp at h0 h1 h2;subst h0 h1 h2;rfl
theorem XBJ {fuel:Nat} {cs:List Value} {d:DataW H} {ps:List MemPlace} (h:DataW.trod enc Tryz.prog W 0 (fun _=>true) true fuel 62 cs=some (d,ps)):∃ c:Cel,cs=XD5 c:=by
 obtain⟨xs,n,_,_,_,hl,hx⟩:=XAO XGF (by simp) h
 rw [c62]at hl
 obtain⟨y0,_,h0⟩:=hx 0 (21,0) rfl
 obtain⟨y1,_,h1⟩:=hx 1 (3,1) rfl
 obtain⟨y2,_,h2⟩:=hx 2 (3,2) rfl
 rw [c21]at h0
 rw [c3]at h1 h2
 obtain⟨a,ha,_⟩:=DataW.trod_int u21 h0
 obtain⟨b,hb,_⟩:=DataW.trod_int u3 h1
 obtain⟨c,hc,_⟩:=DataW.trod_int u3 h2
 exact⟨(a,b,c),three hl (XAN ha) (XAN hb) (XAN hc)⟩
theorem XDK (hU:∀ (a:Addr) v,Vai.TG a.block→W.cell? a=some v→XKs v=true) {fuel:Nat} {cs:List Value} {d:DataW H} {ps:List MemPlace} (h:DataW.trod enc Tryz.prog W 0 (fun _=>true) true fuel 53 cs=some (d,ps)) (hf:W.noneFrozen ps):∃ r:RW,cs=[XJJ r]∧XDj W r.1 3 r.2.length (r.2.flatMap XD5):=by
 rcases XBI c62 (by omega) u53 h hf hU (fun n c d ps q v e=>by
  obtain⟨x,rfl⟩:=XBJ q
  cases e;rfl)with⟨q1,q2⟩ | ⟨a,len,cap,n1,D,Pl,CS,rest,q1,q2,q3,q4⟩
 · exact⟨(none,[]),q1,⟨rfl,rfl⟩⟩
 ·
  obtain⟨r,hr⟩:=choose_lt (α:=Cel) (p:=fun i r=>CS i=XD5 r) (fun i hi=>XBJ (q3 i hi).1)
  have e:(List.range len).flatMap CS=((List.range len).map r).flatMap XD5:=by
   rw [List.flatMap_map]
   exact flatMap_congr_range fun i hi=>hr i hi
  refine⟨(some (a,cap),(List.range len).map r),by rw [q1];simp [XJJ,slV],?_⟩
  rw [← e];simpa using q4
theorem XCN {fuel:Nat} {t e:TypeId} (ht:Tryz.prog.underlying t=some (.slice e)) {cs:List Value} {d:DataW H} {ps:List MemPlace} (h:DataW.trod enc Tryz.prog W 0 (fun _=>true) true fuel t cs=some (d,ps)):∀ v,cs[0]?=some v→XKs v=false:=by
 intro v hv
 rcases open_slice ht h with⟨h1,h2⟩ | ⟨a,len,cap,m,n,D,Pl,rfl,_⟩
 · rw [h1]at hv;cases hv;rfl
 · cases hv;rfl
theorem XDL (hU:∀ (a:Addr) v,Vai.TG a.block→W.cell? a=some v→XKs v=true) {fuel:Nat} {cs:List Value} {d:DataW H} {ps:List MemPlace} (h:DataW.trod enc Tryz.prog W 0 (fun _=>true) true fuel 41 cs=some (d,ps)) (hf:W.noneFrozen ps):∃ (oa:SlW) (rs:List RW),cs=[slV oa rs.length]∧X9B W oa rs:=by
 rcases XBI c53 (by omega) u41 h hf hU (fun n c d ps q=>XCN u53 q)with⟨q1,q2⟩ | ⟨a,len,cap,n1,D,Pl,CS,rest,q1,q2,q3,q4⟩
 · exact⟨none,[],q1,⟨⟨rfl,rfl⟩,fun r hr=>by cases hr⟩⟩
 ·
  haveI:Inhabited RW:=⟨(none,[])⟩
  obtain⟨r,hr⟩:=choose_lt (α:=RW) (p:=fun i r=>CS i=[XJJ r]∧XDj W r.1 3 r.2.length (r.2.flatMap XD5)) (fun i hi=>XDK hU (q3 i hi).1 (q3 i hi).2)
  have e:(List.range len).flatMap CS=((List.range len).map r).map XJJ:=by
   rw [List.map_map,← List.flatMap_singleton' ((List.range len).map (XJJ ∘ r)),List.flatMap_map]
   exact flatMap_congr_range fun i hi=>(hr i hi).1
  refine⟨some (a,cap),(List.range len).map r,by rw [q1];simp [slV],⟨?_,fun x hx=>?_⟩⟩
  · rw [← e];simpa using q4
  ·
   obtain⟨i,hi,rfl⟩:=List.mem_map.1 hx
   exact(hr i (List.mem_range.1 hi)).2
noncomputable def X88 (g n:Nat):Bool:=match((begin Tryz.prog (fun _ _=>0) default).world.heap[g]?).bind Obj.row? with
 | some (zero,_)=>Nat.beq zero.size n
 | none=>false
theorem XBK {g n:Nat} (h:X88 g n=true) (hg:g<Tryz.prog.globals.size) (S:W.ShapedOpen Tryz.prog):∃ cs t,W.heap[g]?=some (.cells cs t)∧cs.size=n:=by
 unfold X88 at h
 split at h
 ·
  rename_i zero t e
  obtain⟨cs,h1,h2,_⟩:=S.1 g zero t hg e
  exact⟨cs,t,h1,h2.trans (Nat.eq_of_beq_eq_true h)⟩
 · cases h
theorem gtab0:X88 0 256=true:=by kernel_rfl
theorem gtab1:X88 1 32=true:=by kernel_rfl
theorem XLF:1<Tryz.prog.globals.size:=of_decide_eq_true (by kernel_rfl)
theorem XDM {g:Nat} {cs:Array Value} {t:TypeId} (h:W.heap[g]?=some (.cells cs t)) {a:Addr} (ha:a.block=g) {v:Value} (hv:W.cell? a=some v):a.spot=none∧a.off<cs.size:=by
 have hs:=X91 hv
 refine⟨hs,?_⟩
 unfold World.cell? at hv
 rw [ha,h]at hv
 simp only at hv
 split at hv
 · cases hv
 · exact(Array.getElem?_eq_some_iff.1 hv).1
theorem XIx (ht:Vai.TW W) (S:W.ShapedOpen Tryz.prog):∀ (a:Addr) v,Vai.TG a.block→W.cell? a=some v→XKs v=true:=by
 intro a v tg hv
 obtain⟨b,o,sp⟩:=a
 rcases tg with h | h
 ·
  have h:b=0:=h
  subst h
  obtain⟨cs,t,h1,h2⟩:=XBK gtab0 (Nat.lt_trans (Nat.lt_succ_self 0) XLF) S
  obtain⟨q1,q2⟩:=XDM h1 rfl hv
  have q1:sp=none:=q1
  subst q1
  have q2:o<256:=by rw [h2]at q2;exact q2
  rw [ht.1 o q2]at hv
  cases hv;rfl
 ·
  have h:b=1:=h
  subst h
  obtain⟨cs,t,h1,h2⟩:=XBK gtab1 XLF S
  obtain⟨q1,q2⟩:=XDM h1 rfl hv
  have q1:sp=none:=q1
  subst q1
  have q2:o<32:=by rw [h2]at q2;exact q2
  rcases Nat.mod_two_eq_zero_or_one o with e | e
  ·
   have:=(ht.2 (o / 2) (by omega)).1
   rw [show 2*(o / 2)=o by omega,hv]at this
   cases this;rfl
  ·
   have:=(ht.2 (o / 2) (by omega)).2
   rw [show 2*(o / 2)+1=o by omega,hv]at this
   cases this;rfl
end
end Go.Proofs.YtfcadnhoejlgoaaGreatDoor

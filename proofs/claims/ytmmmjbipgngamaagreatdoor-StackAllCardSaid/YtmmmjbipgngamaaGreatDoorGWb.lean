/-
  What is proved here: steps that are read in a world of this program; that they are not Go's own tables. No conditions.
-/
import Derived.Test.YtmmmjbipgngamaaGreatDoorNX
import Derived.Test.YtmmmjbipgngamaaGreatDoorVY
import Derived.Test.YtmmmjbipgngamaaGreatDoorRows
import Derived.Test.YtmmmjbipgngamaaGreatDoorProg
import Derived.Deep.Slices
import Derived.KernelRfl
set_option linter.unusedVariables false
set_option linter.unusedSimpArgs false
set_option maxRecDepth 100000
namespace Go.Proofs.YtmmmjbipgngamaaGreatDoor
open Go.Vai Go.Nfa Go.Deep Go.ChangeShapes Go.WideShapes
noncomputable section
variable {H:Type} {enc:TypeId×Value→H} {W:World}
noncomputable def XCm:Value→Bool
 | .int _ _=>true
 | _=>false
theorem XCn {a:Addr} {n:Nat} {qs:List MemPlace} (h:W.noneFrozen (MemPlace.row a n++qs)) {j:Nat} (hj:j<n):W.frozen? ⟨a.block,a.off+j,none⟩=false :=
 h a.block (a.off+j) (List.mem_append.2 (.inl (by unfold MemPlace.row;exact List.mem_map.2 ⟨j,List.mem_range.2 hj,rfl⟩)))
theorem X9M {ps qs:List MemPlace} (h:W.noneFrozen ps) (s:∀ p∈qs,p∈ps):W.noneFrozen qs:=fun b off hm=>h b off (s _ hm)
theorem XCo {a:Addr} {n:Nat} {cs:List Value} (h:W.cells? 0 a n=some cs):cs.length=n∧∀ (j:Nat) v,cs[j]?=some v→W.cell? (a.add j)=some v:=by
 obtain⟨_,h2,h3⟩:=World.cells?_some h
 exact⟨h2,fun j v e=>by
  have hj:=(List.getElem?_eq_some_iff.1 e).1
  have:=h3 j (by omega)
  rw [this,e]⟩
theorem XCp {a:Addr} (hs:a.spot=none) (j:Nat):a.add j=⟨a.block,a.off+j,none⟩:=by
 obtain⟨b,o,sp⟩:=a
 simp only at hs
 subst hs
 unfold Addr.add
 split
 · rename_i h;subst h;rfl
 · rfl
theorem X7P {a:Addr} {v:Value} (h:W.cell? a=some v):a.spot=none:=by
 unfold World.cell? at h
 split at h
 ·
  split at h
  · cases h
  ·
   rename_i hs;cases hsp:a.spot with
   | none=>rfl
   | some x=>rw [hsp]at hs;simp at hs
 · cases h
theorem XCq {E:Nat} (hE:0<E) {f:Nat→List Value} {n:Nat} (hf:∀ i,i<n→(f i).length=E) {j:Nat} (hj:j<n*E):((List.range n).flatMap f)[j]?=(f (j / E))[j % E]?:=by
 induction n with
 | zero=>omega
 | succ n ih =>
  have hlen:((List.range n).flatMap f).length=n*E:=by
   clear ih hj
   induction n with
   | zero=>simp
   | succ n ih2 =>
    rw [List.range_succ,List.flatMap_append,List.length_append,ih2 (fun i hi=>hf i (by omega))]
    simp [hf n (by omega),Nat.add_mul]
  rw [List.range_succ,List.flatMap_append]
  by_cases h:j<n*E
  ·
   rw [List.getElem?_append_left (by omega)]
   exact ih (fun i hi=>hf i (by omega)) h
  ·
   rw [List.getElem?_append_right (by omega),hlen]
   have hd:j / E=n:=by
    rw [Nat.add_mul]at hj
    exact Nat.div_eq_of_lt_le (by omega) (by rw [Nat.add_mul];omega)
   have hm:j % E=j - n*E:=by
    have:=Nat.div_add_mod j E
    rw [hd,Nat.mul_comm]at this
    omega
   rw [hd,hm];simp
theorem X51 {E:Nat} {f:Nat→List Value} {n:Nat} (hf:∀ i,i<n→(f i).length=E):((List.range n).flatMap f).length=n*E:=by
 induction n with
 | zero=>simp
 | succ n ih =>
  rw [List.range_succ,List.flatMap_append,List.length_append,ih (fun i hi=>hf i (by omega))]
  simp [hf n (by omega),Nat.add_mul]
theorem XCr {t e:TypeId} {E fuel:Nat} (hE:Tryz.prog.cellsOf e=E) (h0:1<E) (ht:Tryz.prog.underlying t=some (.slice e)) {cs:List Value} {d:DataW H} {ps:List MemPlace}
  (h:DataW.trod enc Tryz.prog W 0 (fun _=>true) true fuel t cs=some (d,ps)) (hf:W.noneFrozen ps)
  (hU:∀ (a:Addr) v,Vai.TG a.block→W.cell? a=some v→XCm v=true) (hN:∀ n c d ps,DataW.trod enc Tryz.prog W 0 (fun _=>true) true n e c=some (d,ps)→∀ v,c[1]?=some v→XCm v=false) :
  (cs=[.slice none 0 0]∧d=.nil)∨∃ (a:Addr) (len cap n:Nat) (D:Nat→DataW H) (Pl:Nat→List MemPlace) (CS:Nat→List Value) (rest:List (DataW H)),cs=[.slice (some a) len cap]∧d=.slice ((List.range len).map D) rest ∧
   (∀ i,i<len→DataW.trod enc Tryz.prog W 0 (fun _=>true) true n e (CS i)=some (D i,Pl i)∧W.noneFrozen (Pl i))∧XEK W (some (a,cap)) E len ((List.range len).flatMap CS):=by
 rcases open_slice ht h with⟨h1,h2⟩ | ⟨a,len,cap,m,n,D,Pl,rfl,_,hl,_,hm,hx,he⟩
 · cases h2;exact .inl ⟨h1,rfl⟩
 ·
  right
  have hm:m=cap:=hm.trans (if_pos rfl)
  subst hm
  simp only [Prod.mk.injEq]at hx
  obtain⟨rfl,rfl⟩:=hx
  obtain⟨CS,hC⟩:=choose_lt (α:=List Value) (p:=fun i c=>W.cells? 0 (a.add (i*Tryz.prog.cellsOf e)) (Tryz.prog.cellsOf e)=some c∧DataW.trod enc Tryz.prog W 0 (fun _=>true) true n e c=some (D i,Pl i)) he
  rw [hE]at hC hf
  have hat:∀ i,i<m→(CS i).length=E∧∀ (j:Nat) v,(CS i)[j]?=some v→W.cell? ((a.add (i*E)).add j)=some v:=fun i hi=>XCo (hC i hi).1
  refine⟨a,len,m,n,D,Pl,CS,_,rfl,rfl,fun i hi=>⟨(hC i (by omega)).2,X9M hf fun p hp=>List.mem_append.2 (.inr (List.mem_flatMap.2 ⟨i,List.mem_range.2 (by omega),hp⟩))⟩,?_,hl,?_⟩
  · exact X51 fun i hi=>(hat i (by omega)).1
  ·
   by_cases hc:m=0
   · exact .inl hc
   ·
    right
    have hsp:a.spot=none:=by
     obtain⟨q1,q2⟩:=hat 0 (by omega)
     have:=q2 0 _ (List.getElem?_eq_getElem (by omega))
     rw [Nat.zero_mul]at this
     have e1:(a.add 0).add 0=a:=by unfold Addr.add;simp
     rw [e1]at this
     exact X7P this
    have cell:∀ i j v,i<m→(CS i)[j]?=some v→W.cell? ⟨a.block,a.off+(i*E+j),none⟩=some v:=fun i j v hi hj=>by
     have:=(hat i hi).2 j v hj
     rw [add_add,XCp hsp]at this
     exact this
    refine⟨fun tg=>?_,hsp,fun j hj=>⟨?_,XCn hf hj⟩,fun j v hv=>?_⟩
    ·
     obtain⟨q1,q2⟩:=hat 0 (by omega)
     have hc0:=List.getElem?_eq_getElem (l:=CS 0) (i:=1) (by omega)
     have k1:=hN _ _ _ _ (hC 0 (by omega)).2 _ hc0
     have k2:=hU ⟨a.block,a.off+(0*E+1),none⟩ _ tg (cell 0 1 _ (by omega) hc0)
     rw [k1]at k2;cases k2
    ·
     have hd:j / E<m:=Nat.div_lt_of_lt_mul (by rw [Nat.mul_comm];exact hj)
     have hr:j % E<E:=Nat.mod_lt _ (Nat.lt_of_succ_lt h0)
     have hlen:=(hat _ hd).1
     have hc2:=cell (j / E) (j % E) _ hd (List.getElem?_eq_getElem (show j % E<(CS (j / E)).length by omega))
     rw [Nat.mul_comm,Nat.div_add_mod]at hc2
     exact⟨_,hc2⟩
    ·
     have hj:=(List.getElem?_eq_some_iff.1 hv).1
     rw [X51 fun i hi=>(hat i (by omega)).1]at hj
     rw [XCq (Nat.lt_of_succ_lt h0) (fun i hi=>(hat i (by omega)).1) hj]at hv
     have hd:j / E<len:=Nat.div_lt_of_lt_mul (by rw [Nat.mul_comm];exact hj)
     have:=cell (j / E) (j % E) v (by omega) hv
     rw [Nat.mul_comm,Nat.div_add_mod]at this
     exact this
theorem X8W {cs:List Value} {o:Nat} {v:Value} (h:(cs.drop o).take 1=[v]):cs[o]?=some v:=by
 have:=congrArg (fun l=>l[0]?) h
 simpa[List.getElem?_take,List.getElem?_drop]using this
noncomputable def fieldsOf (t:TypeId):List (TypeId×Nat):=match Tryz.prog.underlying t with
 | some (.struct fs)=>fs.toList.map fun f=>(f.type,f.offset)
 | _=>[]
theorem X8X {t:TypeId} {L:List (TypeId×Nat)} (hL:fieldsOf t=L) (hne:L≠[]) {fuel:Nat} {cs:List Value} {d:DataW H} {ps:List MemPlace} (h:DataW.trod enc Tryz.prog W 0 (fun _=>true) true fuel t cs=some (d,ps)) :
  ∃ (xs:List (DataW H×List MemPlace)) (n:Nat),fuel=n+1∧d=.agg (xs.map (·.1))∧ps=xs.flatMap (·.2)∧cs.length=Tryz.prog.cellsOf t ∧
   ∀ (i:Nat) p,L[i]?=some p→∃ y,xs[i]?=some y∧DataW.trod enc Tryz.prog W 0 (fun _=>true) true n p.1 ((cs.drop p.2).take (Tryz.prog.cellsOf p.1))=some y:=by
 unfold fieldsOf at hL
 split at hL
 case h_2=>exact absurd hL.symm hne
 rename_i fs hu
 obtain⟨xs,n,e1,e2,e3,e4,e5⟩:=DataW.trod_struct hu h
 simp only [Prod.mk.injEq]at e2
 refine⟨xs,n,e1,e2.1,e2.2,e3,fun i p hp=>?_⟩
 rw [← hL,List.getElem?_map]at hp
 obtain⟨f,hf,rfl⟩:=Option.map_eq_some_iff.1 hp
 have hf':fs[i]?=some f:=by simpa using hf
 have:=e5 i f hf'
 have hi:i<xs.length:=by rw [e4];exact(Array.getElem?_eq_some_iff.1 hf').1
 exact⟨xs[i],List.getElem?_eq_getElem hi,by rw [this];exact List.getElem?_eq_getElem hi⟩
theorem XCs:fieldsOf 29=[(3,0),(9,1),(9,2)]:=by kernel_rfl
theorem c3:Tryz.prog.cellsOf 3=1:=by kernel_rfl
theorem c9:Tryz.prog.cellsOf 9=1:=by kernel_rfl
theorem c29:Tryz.prog.cellsOf 29=3:=by kernel_rfl
theorem u3:Tryz.prog.underlying 3=some (.int .i64):=by kernel_rfl
theorem u9:Tryz.prog.underlying 9=some .string:=by kernel_rfl
theorem u22:Tryz.prog.underlying 22=some (.slice 29):=by kernel_rfl
theorem three {cs:List Value} (h:cs.length=3) {a b c:Value} (h0:cs[0]?=some a) (h1:cs[1]?=some b) (h2:cs[2]?=some c):cs=[a,b,c]:=by
 match cs,h with
 | [x0,x1,x2],_=>simp at h0 h1 h2;subst h0 h1 h2;rfl
theorem X9N {fuel:Nat} {cs:List Value} {d:DataW H} {ps:List MemPlace} (h:DataW.trod enc Tryz.prog W 0 (fun _=>true) true fuel 29 cs=some (d,ps)):∃ c:OpW,cs=opV c:=by
 obtain⟨xs,n,_,_,_,hl,hx⟩:=X8X XCs (by simp) h
 rw [c29]at hl
 obtain⟨y0,_,h0⟩:=hx 0 (3,0) rfl
 obtain⟨y1,_,h1⟩:=hx 1 (9,1) rfl
 obtain⟨y2,_,h2⟩:=hx 2 (9,2) rfl
 rw [c9]at h1 h2
 rw [c3]at h0
 obtain⟨a,ha,_⟩:=DataW.trod_int u3 h0
 obtain⟨b,hb,_⟩:=DataW.trod_string u9 h1
 obtain⟨c,hc,_⟩:=DataW.trod_string u9 h2
 exact⟨(a,b,c),three hl (X8W ha) (X8W hb) (X8W hc)⟩
theorem XCt (hU:∀ (a:Addr) v,Vai.TG a.block→W.cell? a=some v→XCm v=true) {fuel:Nat} {cs:List Value} {d:DataW H} {ps:List MemPlace} (h:DataW.trod enc Tryz.prog W 0 (fun _=>true) true fuel 22 cs=some (d,ps)) (hf:W.noneFrozen ps):∃ (oa:SlW) (os:List OpW),cs=[slV oa os.length]∧XAK W oa os:=by
 rcases XCr c29 (by omega) u22 h hf hU (fun n c d ps q v e=>by
  obtain⟨x,rfl⟩:=X9N q
  cases e;rfl)with⟨q1,q2⟩ | ⟨a,len,cap,n1,D,Pl,CS,rest,q1,q2,q3,q4⟩
 · exact⟨none,[],q1,⟨rfl,rfl⟩⟩
 ·
  haveI:Inhabited OpW:=⟨o0⟩
  obtain⟨r,hr⟩:=choose_lt (α:=OpW) (p:=fun i r=>CS i=opV r) (fun i hi=>X9N (q3 i hi).1)
  have e:(List.range len).flatMap CS=((List.range len).map r).flatMap opV:=by
   rw [List.flatMap_map]
   exact flatMap_congr_range fun i hi=>hr i hi
  refine⟨some (a,cap),(List.range len).map r,by rw [q1];simp [slV],?_⟩
  unfold XAK;rw [← e];simpa using q4
theorem X8Y {g:Nat} {cs:Array Value} {t:TypeId} {f:Nat×Nat} (h:W.heap[g]?=some (.cells cs t f)) {a:Addr} (ha:a.block=g) {v:Value} (hv:W.cell? a=some v):a.spot=none∧cs[a.off]?=some v:=by
 have hs:=X7P hv
 refine⟨hs,?_⟩
 unfold World.cell? at hv
 rw [ha,h]at hv
 simp only at hv
 split at hv
 · cases hv
 · exact hv
theorem XEn {W:World} (S:W.ShapedOpen Tryz.prog):∃ cs t,W.heap[3]?=some (.cells cs t)∧cs.size=1:=by
 have h:=XHJ
 unfold XCi at h
 split at h
 ·
  rename_i zero t e
  simp only [Bool.and_eq_true]at h
  obtain⟨cs,h1,h2,h3⟩:=S.1 3 zero t XHK e
  exact⟨cs,_,h1,h2.trans (Nat.eq_of_beq_eq_true h.1)⟩
 · cases h
theorem XCu (ht:Vai.TW W) (S:W.ShapedOpen Tryz.prog):∀ (a:Addr) v,Vai.TG a.block→W.cell? a=some v→XCm v=true:=by
 intro a v tg hv
 rcases tg with h | h
 ·
  obtain⟨t,f,e⟩:=ht.1
  obtain⟨_,q2⟩:=X8Y e h hv
  have q2:(Lib.pow10Tab.map fun z=>Value.int .u64 z)[a.off]?=some v:=by simpa using q2
  obtain⟨z,_,rfl⟩:=List.mem_map.1 (List.mem_of_getElem? q2)
  rfl
 ·
  obtain⟨cs,t,e,hs⟩:=XEn S
  obtain⟨q1,q2⟩:=X8Y e h hv
  have hlt:=(Array.getElem?_eq_some_iff.1 q2).1
  obtain⟨m,hm⟩:=ht.2
  obtain⟨_,q3⟩:=X8Y e rfl hm
  have:a.off=0:=by omega
  rw [this]at q2
  have q3:cs[0]?=some (Value.int .i64 m):=q3
  rw [q2]at q3
  cases q3;rfl
end
end Go.Proofs.YtmmmjbipgngamaaGreatDoor

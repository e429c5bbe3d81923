/-
  What is proved here: rules for rows that are made, written, appended to, cut, and handed on as data (part RF). No conditions.
-/
import Derived.Test.YtmmmjbipgngamaaGreatDoorRD
set_option linter.unusedVariables false
set_option linter.unusedSimpArgs false
namespace Go.Vai
noncomputable section
variable {P:Program} {ov:Ov} {C:Cx0}
variable {ops:Array Oper} {dst:Option Nat} {ty:TypeId} {pos:String} {after:Array Edge} {l:List Oper} {E:X0m} {L:List Ob} {q:SD→Prop}
theorem OD.heap {op:Op} {d:D} {E':X0m} {L':List Ob} (h1:∀ g s a,SR C ⟨E,L⟩ g s a→∃ v a' g',X0P P op ty s a=some (v,a')∧SR C ⟨E',L'⟩ g' s a'∧DR (MM C.M g') g' a' d v) (h:OD P ov C ops l ⟨pt C.nt E' dst d,L'⟩ q):OD P ov C ops (⟨dst,op,ty,pos,after,none⟩::l) ⟨E,L⟩ q:=by
 intro g s a S
 obtain⟨v,a',g',e,S',r⟩:=h1 g s a S
 exact X31.cons S.kp (fun _ _=>rfl) (X4e.plain e (h g' _ a' (S'.put r dst)))
def XFU:D→Bool
 | .int _ _=>true
 | .bool _=>true
 | .str _=>true
 | .lit _=>true
 | .fn _=>true
 | .sl _ _ _=>true
 | _=>false
theorem DL.cr {M:Nat→Prop} {g:Gh} {a:AH} {d:D} {v:Value} (h:DL M g a d v) (hd:XFU d=true):CR M a d v:=by
 cases d<;>first | exact h | cases hd
theorem F2.cr {M:Nat→Prop} {g:Gh} {a:AH} {ds:List D} {vs:List Value} (h:F2 (DL M g a) ds vs) (hd:ds.all XFU=true):F2 (CR M a) ds vs :=
 h.mono_mem fun d m v r=>r.cr (List.all_eq_true.1 hd d m)
theorem F2.dl {M:Nat→Prop} {g:Gh} {a:AH} {ds:List D} {vs:List Value} (h:F2 (CR M a) ds vs):F2 (DL M g a) ds vs:=h.mono fun _ _ r=>r.dl
theorem SR.newRow {σ:SD} {g:Gh} {s:Env} {a:AH} (S:SR C σ g s a) {vs:List Value} {cs:List D} {e n c:Nat} (hl:cs.length=c*e) (h:F2 (CR (MM C.M g) a) cs vs) (hn:n≤c) :
  SR C ⟨σ.E,σ.L++[.row e c cs]⟩ (g++[some (a.next,a.next)]) s (a.new vs e)∧DR (MM C.M (g++[some (a.next,a.next)])) (g++[some (a.next,a.next)]) (a.new vs e) (.row σ.L.length 0 n c) (.slice (some ⟨a.next,0,none⟩) n c):=by
 have hlast:(g++[some (a.next,a.next)])[σ.L.length]?=some (some (a.next,a.next)):=by rw [← S.len];simp
 refine⟨S.newObj ⟨hl,.inr ⟨a.next,a.next,vs,rfl,X4q ..,?_⟩⟩,.inr ⟨a.next,a.next,hlast,rfl⟩⟩
 refine h.mono fun x y r=>CR.mono r (X1C.new S.ok vs e) (fun _ f=>f.elim) (S.mm (g':=g++[some (a.next,a.next)]) (a':=a.new vs e) ?_)
 intro k hk
 rw [X6q]at hk
 rcases List.mem_append.1 hk with h | h
 · exact .inl h
 · simp at h;subst h;exact .inr ⟨Nat.le_refl _,Nat.lt_succ_self _⟩
def X5D (P:Program) (elem:TypeId):Option (List D):=match X1o P elem with
 | some z=>X4F (dOf z)
 | none=>none
def XFV (P:Program) (t:TypeId):Option (Nat×List D×Nat):=match P.underlying t with
 | some (.slice elem)=>match sz P elem,X5D P elem,P.info? elem with
  | some e,some zs,some i=>match Nat.beq zs.length e && Nat.blt 0 e && zs.all XFU with
   | true=>some (e,zs,i.bytes)
   | false=>none
  | _,_,_=>none
 | _=>none
def X6H (zs:List D):Nat→List D
 | 0=>[]
 | n+1=>zs++X6H zs n
theorem X3P (zs:List D):∀ n,(X6H zs n).length=n*zs.length
 | 0=>by simp [X6H]
 | n+1=>by rw [X6H,List.length_append,X3P zs n,Nat.add_mul];omega
theorem reps_one (d:D):∀ n,X6H [d] n=List.replicate n d
 | 0=>rfl
 | n+1=>by rw [X6H,reps_one d n,List.replicate_succ];rfl
theorem X4s (zs:List D) (hz:0<zs.length):∀ (n i:Nat),i<n*zs.length→(X6H zs n)[i]?=zs[i % zs.length]?:=by
 intro n
 induction n with
 | zero=>intro i h;omega
 | succ n ih =>
  intro i h
  rw [X6H]
  by_cases hi:i<zs.length
  · rw [List.getElem?_append_left hi,Nat.mod_eq_of_lt hi]
  ·
   rw [List.getElem?_append_right (by omega),ih (i - zs.length) (by rw [Nat.add_mul]at h;omega)]
   congr 1
   exact(Nat.mod_eq_sub_mod (by omega)).symm
theorem X1t (z:Array Value) (n i:Nat) (hz:0<z.size) (h:i<n):(X02 z n)[i]?=z[i % z.size]?:=by
 unfold X02
 rw [List.getElem?_map,List.getElem?_range h]
 have:i % z.size<z.size:=Nat.mod_lt _ hz
 simp [this]
theorem OD.mk {t:TypeId} {x y:Operand} {k k':IntKind} {n:Nat} {e by_:Nat} {zs:List D} (ht:XFV P t=some (e,zs,by_)) (hx:zd E x=some (.int k (n:Int))) (hy:zd E y=some (.int k' (n:Int))) (hb:n*by_≤281474976710656) (hs:n*e≤100000000) (hn:n≤1000000000)
  (h:OD P ov C ops l ⟨pt C.nt E dst (.row L.length 0 n n),L++[.row e n (X6H zs n)]⟩ q):OD P ov C ops (⟨dst,.makeSlice t x y,ty,pos,after,none⟩::l) ⟨E,L⟩ q:=by
 refine OD.heap (fun g s a S=>?_) h
 obtain⟨vx,q1,q2⟩:=X0C S hx
 obtain⟨vy,p1,p2⟩:=X0C S hy
 cases q2;cases p2
 unfold XFV at ht
 split at ht
 case h_2=>cases ht
 rename_i elem hu
 split at ht
 case h_2=>cases ht
 rename_i e' zs' i h1 h2 h3
 split at ht
 case h_2=>cases ht
 rename_i hc
 simp only [Option.some.injEq,Prod.mk.injEq]at ht
 obtain⟨rfl,rfl,rfl⟩:=ht
 simp only [Bool.and_eq_true,Nat.beq_eq,Nat.blt_eq]at hc
 unfold X5D at h2
 split at h2
 case h_2=>cases h2
 rename_i z hz
 have hzc:=X6F (M:=MM C.M g) (g:=g) (a:=a) (X0W hz) h2
 have hzs:z.cells.size=e':=by have:=hzc.length;simp at this;omega
 have hlen:(X02 z.cells (n*e')).length=n*e':=X0u ..
 have R:F2 (CR (MM C.M g) a) (X6H zs' n) (X02 z.cells (n*e')):=by
  refine F2.of_get (by rw [X3P,hlen,hc.1.1]) fun j d v e1 e2=>?_
  have hj:j<n*e':=by rw [← hlen];exact(List.getElem?_eq_some_iff.1 e2).1
  rw [X4s _ (by omega) _ _ (by rw [hc.1.1];exact hj),hc.1.1]at e1
  rw [X1t _ _ _ (by omega) hj,hzs]at e2
  obtain⟨u,r1,r2⟩:=(hzc.cr hc.2).get _ _ e1
  simp at r1
  rw [r1]at e2;cases e2
  exact r2
 obtain⟨S',r'⟩:=S.newRow (n:=n) (c:=n) (by rw [X3P,hc.1.1]) R (Nat.le_refl _)
 refine⟨_,_,_,?_,S',r'⟩
 have c1:decide ((0:Int)≤(n:Int))=true:=decide_eq_true (by omega)
 have c2:decide ((n:Int)≤(n:Int))=true:=decide_eq_true (by omega)
 have c3:decide ((n:Int)*(i.bytes:Int)≤281474976710656)=true:=decide_eq_true (by rw [← Int.natCast_mul];exact Int.ofNat_le.2 hb)
 have c4:Nat.ble (n*e') 100000000=true:=Nat.ble_eq ▸ hs
 have c5:Nat.beq z.cells.size e'=true:=by rw [hzs];exact Nat.beq_refl _
 have c6:Nat.blt 0 e'=true:=by simpa using hc.1.2
 have c7:decide ((n:Int)≤1000000000)=true:=decide_eq_true (by omega)
 simp only [X0P,q1,p1,X3M,hu,h1,hz,h3,Int.toNat_natCast,c1,c2,c3,c4,c5,c6,c7,Bool.and_self,XBC]
def X6w (P:Program) (t:TypeId) (len:Nat) (parts:List (Nat×D)):Option (Nat×List D):=match XFV P t with
 | some (e,zs,_)=>match Nat.ble (len*e) 16777216 with
  | true=>match XAS (fun i=>some (i*e,e)) (X6H zs len) parts with
   | some cs=>match cs.all XFU && Nat.beq cs.length (len*e)with
    | true=>some (e,cs)
    | false=>none
   | none=>none
  | false=>none
 | none=>none
theorem OD.bsl {t:TypeId} {len:Nat} {parts:Array (Nat×Operand)} {ps:List (Nat×D)} {e:Nat} {cs:List D} (hp:zdP E parts.toList=some ps) (hr:X6w P t len ps=some (e,cs))
  (h:OD P ov C ops l ⟨pt C.nt E dst (.sl e len cs),L⟩ q):OD P ov C ops (⟨dst,.buildSlice t len parts,ty,pos,after,none⟩::l) ⟨E,L⟩ q:=by
 refine OD.heap (fun g s a S=>?_) h
 obtain⟨vs,q1,q2⟩:=XBR S hp
 unfold X6w at hr
 split at hr
 case h_2=>cases hr
 rename_i e' zs by_ ht
 split at hr
 case h_2=>cases hr
 rename_i hle
 split at hr
 case h_2=>cases hr
 rename_i cs' hf
 split at hr
 case h_2=>cases hr
 rename_i hall
 cases hr
 unfold XFV at ht
 split at ht
 case h_2=>cases ht
 rename_i elem hu
 split at ht
 case h_2=>cases ht
 rename_i e'' zs' i h1 h2 h3
 split at ht
 case h_2=>cases ht
 rename_i hc
 simp only [Option.some.injEq,Prod.mk.injEq]at ht
 obtain⟨rfl,rfl,rfl⟩:=ht
 simp only [Bool.and_eq_true,Nat.beq_eq,Nat.blt_eq]at hc hall
 unfold X5D at h2
 split at h2
 case h_2=>cases h2
 rename_i z hz
 have hzc:=X6F (M:=MM C.M g) (g:=g) (a:=a) (X0W hz) h2
 have hzs:z.cells.size=e'':=by have:=hzc.length;simp at this;omega
 have hlen:(X02 z.cells (len*e'')).length=len*e'':=X0u ..
 have R:F2 (DL (MM C.M g) g a) (X6H zs' len) (X02 z.cells (len*e'')):=by
  refine F2.of_get (by rw [X3P,hlen,hc.1.1]) fun j d v e1 e2=>?_
  have hj:j<len*e'':=by rw [← hlen];exact(List.getElem?_eq_some_iff.1 e2).1
  rw [X4s _ (by omega) _ _ (by rw [hc.1.1];exact hj),hc.1.1]at e1
  rw [X1t _ _ _ (by omega) hj,hzs]at e2
  obtain⟨u,r1,r2⟩:=hzc.get _ _ e1
  simp at r1
  rw [r1]at e2;cases e2
  exact r2
 obtain⟨l',f1,f2⟩:=X4r hf q2 R
 have K:=X1C.new S.ok l' e''
 have S':SR C ⟨E,L⟩ g s (a.new l' e''):=S.heap' K (fun _ f=>f.elim) (XBO S.ok l' e'') (Gh.On.refl _) S.len (fun k hk=>.inl hk) S.nd (fun i x o h1 h2=>(S.obj i x o h1 h2).monoR K (fun _ f=>f.elim) (fun _ _ m=>m) (Gh.On.refl _) fun _ _ _ f=>f) fun i cs e=>.inr ⟨cs,e⟩
 refine⟨.slice (some ⟨a.next,0,none⟩) len len,a.new l' e'',g,?_,S',?_⟩
 ·
  have c1:Nat.beq z.cells.size e''=true:=by rw [hzs];exact Nat.beq_refl _
  have c2:Nat.blt 0 e''=true:=by simpa using hc.1.2
  have c3:Nat.beq l'.length (len*e'')=true:=by rw [← f2.length,hall.2];exact Nat.beq_refl _
  simp only [X0P,q1,X2A,hu,h1,hz,hle,c1,c2,Bool.and_self,f1,c3,XBC]
 ·
  have F:=(f2.cr hall.1)
  refine X4U.cr (i:=0) ⟨⟨l',a.next,true,e''⟩,X4q ..,fun m=>?_,Nat.lt_succ_self _,rfl,hall.2,?_,fun j d hd=>?_⟩ (Nat.le_refl _)
  ·
   have:MM C.M g a.next:=m
   exact absurd (S.mmlt this) (Nat.lt_irrefl _)
  ·
   show 0+len*e''≤l'.length
   rw [← F.length,hall.2];omega
  ·
   obtain⟨v,r1,r2⟩:=F.get j d hd
   exact⟨v,by rw [Nat.zero_add];exact r1,r2.mono K (fun _ f=>f.elim) (fun _ _ m=>m)⟩
theorem OD.idxR {t:TypeId} {x y:Operand} {j o n c e:Nat} {k:IntKind} {z:Int} (hx:zd E x=some (.row j o n c)) (hy:zd E y=some (.int k z)) (ht:X2s P t=some e) (h0:0≤z) (h1:z<n)
  (h:OD P ov C ops l ⟨pt C.nt E dst (.loc j (o+z.toNat*e)),L⟩ q):OD P ov C ops (⟨dst,.indexAddr t x y,ty,pos,after,none⟩::l) ⟨E,L⟩ q:=by
 refine OD.plain (fun g s a S=>?_) h
 obtain⟨elem,hu,hs⟩:=X2W ht
 obtain⟨vx,q1,q2⟩:=X0C S hx
 obtain⟨vy,p1,p2⟩:=X0C S hy
 cases p2
 rcases q2 with⟨_,rfl,_,_⟩ | ⟨b,k',hg,rfl⟩
 · omega
 ·
  refine⟨.pointer (some ⟨b,o+z.toNat*e,none⟩),?_,b,k',hg,rfl⟩
  simp only [X0P,q1,p1]
  refine X0E ?_
  simp only [X1m,hu,hs,decide_eq_true h0,decide_eq_true h1,Bool.and_self]
theorem OD.ldR {t:TypeId} {x:Operand} {j o e n:Nat} {cs:List D} {d:D} (hx:zd E x=some (.loc j o)) (hL:L[j]?=some (.row e n cs)) (ha:X2u P t=some false) (hd:cs[o]?=some d)
  (h:OD P ov C ops l ⟨pt C.nt E dst d,L⟩ q):OD P ov C ops (⟨dst,.load t x,ty,pos,after,none⟩::l) ⟨E,L⟩ q:=by
 refine OD.plain (fun g s a S=>?_) h
 obtain⟨vx,q1,b,k,hg,rfl⟩:=X0C S hx
 obtain⟨_,⟨e1,_⟩ | ⟨b',k',vs,e1,r2,r3⟩⟩:=S.obj j _ _ hg hL
 · cases e1
 cases e1
 obtain⟨v,t1,t2⟩:=r3.get o d hd
 refine⟨v,?_,t2.dl.dr⟩
 simp only [X0P,q1]
 refine X0E ?_
 simp only [X3t,ha]
 rw [XFI r2];exact t1
theorem OD.ldRA {t:TypeId} {x:Operand} {j o e n m:Nat} {cs ds:List D} (hx:zd E x=some (.loc j o)) (hL:L[j]?=some (.row e n cs)) (ha:X2u P t=some true) (hs:sz P t=some m) (hd:(cs.drop o).take m=ds) (hm:ds.length=m) (h0:0<m)
  (h:OD P ov C ops l ⟨pt C.nt E dst (.agg ds),L⟩ q):OD P ov C ops (⟨dst,.load t x,ty,pos,after,none⟩::l) ⟨E,L⟩ q:=by
 refine OD.plain (fun g s a S=>?_) h
 obtain⟨vx,q1,b,k,hg,rfl⟩:=X0C S hx
 obtain⟨_,⟨e1,_⟩ | ⟨b',k',vs,e1,r2,r3⟩⟩:=S.obj j _ _ hg hL
 · cases e1
 cases e1
 have hlen:o+m≤vs.length:=by
  rw [← hd,List.length_take,List.length_drop]at hm
  rw [← r3.length];omega
 refine⟨.agg ((vs.drop o).take m).toArray,?_,_,rfl,?_⟩
 ·
  simp only [X0P,q1]
  refine X0E ?_
  simp only [X3t,ha,hs]
  rw [X6E r2 hlen]
 ·
  subst hd
  exact((r3.drop o).take m).dl
theorem OD.stR {t:TypeId} {x y:Operand} {j o e n m:Nat} {cs ds:List D} {d:D} (hx:zd E x=some (.loc j o)) (hL:L[j]?=some (.row e n cs)) (hy:zd E y=some d) (hds:X4F d=some ds) (hcr:ds.all XFU=true) (hs:sz P t=some m) (hm:ds.length=m) (ho:o+m≤cs.length)
  (h:OD P ov C ops l ⟨pt C.nt E dst .any,L.set j (.row e n (cs.take o++ds++cs.drop (o+ds.length)))⟩ q):OD P ov C ops (⟨dst,.store t x y,ty,pos,after,none⟩::l) ⟨E,L⟩ q:=by
 refine OD.heap (fun g s a S=>?_) h
 obtain⟨v,q1,b,k,q2,rfl⟩:=X0C S hx
 obtain⟨u,p1,p2⟩:=X0C S hy
 obtain⟨us,p3,p4⟩:=X3O p2 hds
 obtain⟨hl,⟨e1,_⟩ | ⟨b',k',vs,e1,r2,r3⟩⟩:=S.obj j _ _ q2 hL
 · cases e1
 cases e1
 have hlen:us.length=m:=by rw [← p4.length];exact hm
 have hle:o+us.length≤vs.length:=by rw [hlen,← r3.length];exact ho
 have R:=F2.over r3.dl p4 o (g:=g)
 refine⟨undef,_,g,?_,S.write q2 hL r2 (vs':=over vs o us) ⟨?_,.inr ⟨b,k,_,rfl,X2V,?_⟩⟩ (fun _ q=>by cases q),trivial⟩
 ·
  simp only [X0P,q1,p1,X7T,p3,hs,hlen,Nat.beq_refl]
  unfold AH.wrL
  rw [r2]
  simp only [hle,and_self,if_true]
 · rw [← hl,R.length,X55 _ _ _ hle,r3.length]
 ·
  have K:=X25 (B':=⟨over vs o us,k,true,e⟩) r2 rfl
  have R':F2 (CR (MM C.M g) a) (cs.take o++ds++cs.drop (o+ds.length)) (over vs o us):=by
   unfold over
   rw [← p4.length]
   exact((r3.take o).append (p4.cr hcr)).append (r3.drop _)
  refine R'.mono fun x y r=>r.mono K (fun x q=>?_) (fun _ _ m=>m)
  subst q
  exact .inr (Gh.mem_cls.2 ⟨j,b,q2⟩)
end
end Go.Vai

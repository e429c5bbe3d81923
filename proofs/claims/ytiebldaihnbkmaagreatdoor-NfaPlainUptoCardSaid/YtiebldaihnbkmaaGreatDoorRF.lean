/-
  What is proved here: rules for rows that are made, written, appended to, cut, and handed on as data (part RF). No conditions.
-/
import Derived.Test.YtiebldaihnbkmaaGreatDoorRD
set_option linter.unusedVariables false
set_option linter.unusedSimpArgs false
namespace Go.Vai
noncomputable section
variable {P:Program} {ov:Ov} {C:Cx0}
variable {ops:Array Oper} {dst:Option Nat} {ty:TypeId} {pos:String} {after:Array Edge} {l:List Oper} {E:X19} {L:List Ob} {q:SD→Prop}
theorem OD.heap {op:Op} {d:D} {E':X19} {L':List Ob} (h1:∀ g s a,SR C ⟨E,L⟩ g s a→∃ v a' g',X0c P op ty s a=some (v,a')∧SR C ⟨E',L'⟩ g' s a'∧DR (MM C.M g') g' a' d v) (h:OD P ov C ops l ⟨pt C.nt E' dst d,L'⟩ q):OD P ov C ops (⟨dst,op,ty,pos,after,none⟩::l) ⟨E,L⟩ q:=by
 intro g s a S
 obtain⟨v,a',g',e,S',r⟩:=h1 g s a S
 exact X3t.cons S.kp (fun _ _=>rfl) (X4d.plain e (h g' _ a' (S'.put r dst)))
def XF2:D→Bool
 | .int _ _=>true
 | .bool _=>true
 | .str _=>true
 | .lit _=>true
 | .fn _=>true
 | .sl _ _ _=>true
 | _=>false
theorem DL.cr {M:Nat→Prop} {g:Gh} {a:AH} {d:D} {v:Value} (h:DL M g a d v) (hd:XF2 d=true):CR M a d v:=by
 cases d<;>first | exact h | cases hd
theorem F2.cr {M:Nat→Prop} {g:Gh} {a:AH} {ds:List D} {vs:List Value} (h:F2 (DL M g a) ds vs) (hd:ds.all XF2=true):F2 (CR M a) ds vs :=
 h.mono_mem fun d m v r=>r.cr (List.all_eq_true.1 hd d m)
theorem F2.dl {M:Nat→Prop} {g:Gh} {a:AH} {ds:List D} {vs:List Value} (h:F2 (CR M a) ds vs):F2 (DL M g a) ds vs:=h.mono fun _ _ r=>r.dl
theorem SR.newRow {σ:SD} {g:Gh} {s:Env} {a:AH} (S:SR C σ g s a) {vs:List Value} {cs:List D} {e n c:Nat} (hl:cs.length=c*e) (h:F2 (CR (MM C.M g) a) cs vs) (hn:n≤c) :
  SR C ⟨σ.E,σ.L++[.row e c cs]⟩ (g++[some (a.next,a.next)]) s (a.new vs e)∧DR (MM C.M (g++[some (a.next,a.next)])) (g++[some (a.next,a.next)]) (a.new vs e) (.row σ.L.length 0 n c) (.slice (some ⟨a.next,0,none⟩) n c):=by
 have hlast:(g++[some (a.next,a.next)])[σ.L.length]?=some (some (a.next,a.next)):=by rw [← S.len];simp
 refine⟨S.newObj ⟨hl,.inr ⟨a.next,a.next,vs,rfl,X5C ..,?_⟩⟩,.inr ⟨a.next,a.next,hlast,rfl⟩⟩
 refine h.mono fun x y r=>CR.mono r (X1e.new S.ok vs e) (fun _ f=>f.elim) (S.mm (g':=g++[some (a.next,a.next)]) (a':=a.new vs e) ?_)
 intro k hk
 rw [X7R]at hk
 rcases List.mem_append.1 hk with h | h
 · exact .inl h
 · simp at h;subst h;exact .inr ⟨Nat.le_refl _,Nat.lt_succ_self _⟩
def X7W (P:Program) (elem:TypeId):Option (List D):=match X22 P elem with
 | some z=>X3u (dOf z)
 | none=>none
def XI6 (P:Program) (t:TypeId):Option (Nat×List D×Nat):=match P.underlying t with
 | some (.slice elem)=>match sz P elem,X7W P elem,P.info? elem with
  | some e,some zs,some i=>match Nat.beq zs.length e && Nat.blt 0 e && zs.all XF2 with
   | true=>some (e,zs,i.bytes)
   | false=>none
  | _,_,_=>none
 | _=>none
def XBM (zs:List D):Nat→List D
 | 0=>[]
 | n+1=>zs++XBM zs n
theorem X4D (zs:List D):∀ n,(XBM zs n).length=n*zs.length
 | 0=>by simp [XBM]
 | n+1=>by rw [XBM,List.length_append,X4D zs n,Nat.add_mul];omega
theorem XAZ (d:D):∀ n,XBM [d] n=List.replicate n d
 | 0=>rfl
 | n+1=>by rw [XBM,XAZ d n,List.replicate_succ];rfl
theorem X7X (zs:List D) (hz:0<zs.length):∀ (n i:Nat),i<n*zs.length→(XBM zs n)[i]?=zs[i % zs.length]?:=by
 intro n
 induction n with
 | zero=>intro i h;omega
 | succ n ih =>
  intro i h
  rw [XBM]
  by_cases hi:i<zs.length
  · rw [List.getElem?_append_left hi,Nat.mod_eq_of_lt hi]
  ·
   rw [List.getElem?_append_right (by omega),ih (i - zs.length) (by rw [Nat.add_mul]at h;omega)]
   congr 1
   exact(Nat.mod_eq_sub_mod (by omega)).symm
theorem X2R (z:Array Value) (n i:Nat) (hz:0<z.size) (h:i<n):(X08 z n)[i]?=z[i % z.size]?:=by
 unfold X08
 rw [List.getElem?_map,List.getElem?_range h]
 have:i % z.size<z.size:=Nat.mod_lt _ hz
 simp [this]
theorem OD.mk {t:TypeId} {x y:Operand} {k k':IntKind} {n:Nat} {e by_:Nat} {zs:List D} (ht:XI6 P t=some (e,zs,by_)) (hx:zd E x=some (.int k (n:Int))) (hy:zd E y=some (.int k' (n:Int))) (hb:n*by_≤281474976710656) (hs:n*e≤100000000) (hn:n≤1000000000)
  (h:OD P ov C ops l ⟨pt C.nt E dst (.row L.length 0 n n),L++[.row e n (XBM zs n)]⟩ q):OD P ov C ops (⟨dst,.makeSlice t x y,ty,pos,after,none⟩::l) ⟨E,L⟩ q:=by
 refine OD.heap (fun g s a S=>?_) h
 obtain⟨vx,q1,q2⟩:=X0M S hx
 obtain⟨vy,p1,p2⟩:=X0M S hy
 cases q2;cases p2
 unfold XI6 at ht
 split at ht
 case h_2=>cases ht
 rename_i elem hu
 split at ht
 case h_2=>cases ht
 rename_i e' zs' i h1 h2 h3
 split at ht
 case h_2=>cases ht
 rename_i hc
 simp only [Option.some.injEq,Prod.mk.injEq]at ht
 obtain⟨rfl,rfl,rfl⟩:=ht
 simp only [Bool.and_eq_true,Nat.beq_eq,Nat.blt_eq]at hc
 unfold X7W at h2
 split at h2
 case h_2=>cases h2
 rename_i z hz
 have hzc:=X8L (M:=MM C.M g) (g:=g) (a:=a) (X0g hz) h2
 have hzs:z.cells.size=e':=by have:=hzc.length;simp at this;omega
 have hlen:(X08 z.cells (n*e')).length=n*e':=X1P ..
 have R:F2 (CR (MM C.M g) a) (XBM zs' n) (X08 z.cells (n*e')):=by
  refine F2.of_get (by rw [X4D,hlen,hc.1.1]) fun j d v e1 e2=>?_
  have hj:j<n*e':=by rw [← hlen];exact(List.getElem?_eq_some_iff.1 e2).1
  rw [X7X _ (by omega) _ _ (by rw [hc.1.1];exact hj),hc.1.1]at e1
  rw [X2R _ _ _ (by omega) hj,hzs]at e2
  obtain⟨u,r1,r2⟩:=(hzc.cr hc.2).get _ _ e1
  simp at r1
  rw [r1]at e2;cases e2
  exact r2
 obtain⟨S',r'⟩:=S.newRow (n:=n) (c:=n) (by rw [X4D,hc.1.1]) R (Nat.le_refl _)
 refine⟨_,_,_,?_,S',r'⟩
 have c1:decide ((0:Int)≤(n:Int))=true:=decide_eq_true (by omega)
 have c2:decide ((n:Int)≤(n:Int))=true:=decide_eq_true (by omega)
 have c3:decide ((n:Int)*(i.bytes:Int)≤281474976710656)=true:=decide_eq_true (by rw [← Int.natCast_mul];exact Int.ofNat_le.2 hb)
 have c4:Nat.ble (n*e') 100000000=true:=Nat.ble_eq ▸ hs
 have c5:Nat.beq z.cells.size e'=true:=by rw [hzs];exact Nat.beq_refl _
 have c6:Nat.blt 0 e'=true:=by simpa using hc.1.2
 have c7:decide ((n:Int)≤1000000000)=true:=decide_eq_true (by omega)
 simp only [X0c,q1,p1,X3O,hu,h1,hz,h3,Int.toNat_natCast,c1,c2,c3,c4,c5,c6,c7,Bool.and_self,XDt]
def X7Y (P:Program) (t:TypeId) (len:Nat) (parts:List (Nat×D)):Option (Nat×List D):=match XI6 P t with
 | some (e,zs,_)=>match Nat.ble (len*e) 16777216 with
  | true=>match XBJ (fun i=>some (i*e,e)) (XBM zs len) parts with
   | some cs=>match cs.all XF2 && Nat.beq cs.length (len*e)with
    | true=>some (e,cs)
    | false=>none
   | none=>none
  | false=>none
 | none=>none
theorem OD.bsl {t:TypeId} {len:Nat} {parts:Array (Nat×Operand)} {ps:List (Nat×D)} {e:Nat} {cs:List D} (hp:zdP E parts.toList=some ps) (hr:X7Y P t len ps=some (e,cs))
  (h:OD P ov C ops l ⟨pt C.nt E dst (.sl e len cs),L⟩ q):OD P ov C ops (⟨dst,.buildSlice t len parts,ty,pos,after,none⟩::l) ⟨E,L⟩ q:=by
 refine OD.heap (fun g s a S=>?_) h
 obtain⟨vs,q1,q2⟩:=XCv S hp
 unfold X7Y at hr
 split at hr
 case h_2=>cases hr
 rename_i e' zs by_ ht
 split at hr
 case h_2=>cases hr
 rename_i hle
 split at hr
 case h_2=>cases hr
 rename_i cs' hf
 split at hr
 case h_2=>cases hr
 rename_i hall
 cases hr
 unfold XI6 at ht
 split at ht
 case h_2=>cases ht
 rename_i elem hu
 split at ht
 case h_2=>cases ht
 rename_i e'' zs' i h1 h2 h3
 split at ht
 case h_2=>cases ht
 rename_i hc
 simp only [Option.some.injEq,Prod.mk.injEq]at ht
 obtain⟨rfl,rfl,rfl⟩:=ht
 simp only [Bool.and_eq_true,Nat.beq_eq,Nat.blt_eq]at hc hall
 unfold X7W at h2
 split at h2
 case h_2=>cases h2
 rename_i z hz
 have hzc:=X8L (M:=MM C.M g) (g:=g) (a:=a) (X0g hz) h2
 have hzs:z.cells.size=e'':=by have:=hzc.length;simp at this;omega
 have hlen:(X08 z.cells (len*e'')).length=len*e'':=X1P ..
 have R:F2 (DL (MM C.M g) g a) (XBM zs' len) (X08 z.cells (len*e'')):=by
  refine F2.of_get (by rw [X4D,hlen,hc.1.1]) fun j d v e1 e2=>?_
  have hj:j<len*e'':=by rw [← hlen];exact(List.getElem?_eq_some_iff.1 e2).1
  rw [X7X _ (by omega) _ _ (by rw [hc.1.1];exact hj),hc.1.1]at e1
  rw [X2R _ _ _ (by omega) hj,hzs]at e2
  obtain⟨u,r1,r2⟩:=hzc.get _ _ e1
  simp at r1
  rw [r1]at e2;cases e2
  exact r2
 obtain⟨l',f1,f2⟩:=X5D hf q2 R
 have K:=X1e.new S.ok l' e''
 have S':SR C ⟨E,L⟩ g s (a.new l' e''):=S.heap' K (fun _ f=>f.elim) (XCs S.ok l' e'') (Gh.On.refl _) S.len (fun k hk=>.inl hk) S.nd (fun i x o h1 h2=>(S.obj i x o h1 h2).monoR K (fun _ f=>f.elim) (fun _ _ m=>m) (Gh.On.refl _) fun _ _ _ f=>f) fun i cs e=>.inr ⟨cs,e⟩
 refine⟨.slice (some ⟨a.next,0,none⟩) len len,a.new l' e'',g,?_,S',?_⟩
 ·
  have c1:Nat.beq z.cells.size e''=true:=by rw [hzs];exact Nat.beq_refl _
  have c2:Nat.blt 0 e''=true:=by simpa using hc.1.2
  have c3:Nat.beq l'.length (len*e'')=true:=by rw [← f2.length,hall.2];exact Nat.beq_refl _
  simp only [X0c,q1,X2F,hu,h1,hz,hle,c1,c2,Bool.and_self,f1,c3,XDt]
 ·
  have F:=(f2.cr hall.1)
  refine XBG.cr (i:=0) ⟨⟨l',a.next,true,e''⟩,X5C ..,fun m=>?_,Nat.lt_succ_self _,rfl,hall.2,?_,fun j d hd=>?_⟩ (Nat.le_refl _)
  ·
   have:MM C.M g a.next:=m
   exact absurd (S.mmlt this) (Nat.lt_irrefl _)
  ·
   show 0+len*e''≤l'.length
   rw [← F.length,hall.2];omega
  ·
   obtain⟨v,r1,r2⟩:=F.get j d hd
   exact⟨v,by rw [Nat.zero_add];exact r1,r2.mono K (fun _ f=>f.elim) (fun _ _ m=>m)⟩
theorem OD.idxR {t:TypeId} {x y:Operand} {j o n c e:Nat} {k:IntKind} {z:Int} (hx:zd E x=some (.row j o n c)) (hy:zd E y=some (.int k z)) (ht:X3j P t=some e) (h0:0≤z) (h1:z<n)
  (h:OD P ov C ops l ⟨pt C.nt E dst (.loc j (o+z.toNat*e)),L⟩ q):OD P ov C ops (⟨dst,.indexAddr t x y,ty,pos,after,none⟩::l) ⟨E,L⟩ q:=by
 refine OD.plain (fun g s a S=>?_) h
 obtain⟨elem,hu,hs⟩:=X3T ht
 obtain⟨vx,q1,q2⟩:=X0M S hx
 obtain⟨vy,p1,p2⟩:=X0M S hy
 cases p2
 rcases q2 with⟨_,rfl,_,_⟩ | ⟨b,k',hg,rfl⟩
 · omega
 ·
  refine⟨.pointer (some ⟨b,o+z.toNat*e,none⟩),?_,b,k',hg,rfl⟩
  simp only [X0c,q1,p1]
  refine X0O ?_
  simp only [X1q,hu,hs,decide_eq_true h0,decide_eq_true h1,Bool.and_self]
theorem OD.ldR {t:TypeId} {x:Operand} {j o e n:Nat} {cs:List D} {d:D} (hx:zd E x=some (.loc j o)) (hL:L[j]?=some (.row e n cs)) (ha:X2y P t=some false) (hd:cs[o]?=some d)
  (h:OD P ov C ops l ⟨pt C.nt E dst d,L⟩ q):OD P ov C ops (⟨dst,.load t x,ty,pos,after,none⟩::l) ⟨E,L⟩ q:=by
 refine OD.plain (fun g s a S=>?_) h
 obtain⟨vx,q1,b,k,hg,rfl⟩:=X0M S hx
 obtain⟨_,⟨e1,_⟩ | ⟨b',k',vs,e1,r2,r3⟩⟩:=S.obj j _ _ hg hL
 · cases e1
 cases e1
 obtain⟨v,t1,t2⟩:=r3.get o d hd
 refine⟨v,?_,t2.dl.dr⟩
 simp only [X0c,q1]
 refine X0O ?_
 simp only [X5c,ha]
 rw [XHL r2];exact t1
theorem OD.stR {t:TypeId} {x y:Operand} {j o e n m:Nat} {cs ds:List D} {d:D} (hx:zd E x=some (.loc j o)) (hL:L[j]?=some (.row e n cs)) (hy:zd E y=some d) (hds:X3u d=some ds) (hcr:ds.all XF2=true) (hs:sz P t=some m) (hm:ds.length=m) (ho:o+m≤cs.length)
  (h:OD P ov C ops l ⟨pt C.nt E dst .any,L.set j (.row e n (cs.take o++ds++cs.drop (o+ds.length)))⟩ q):OD P ov C ops (⟨dst,.store t x y,ty,pos,after,none⟩::l) ⟨E,L⟩ q:=by
 refine OD.heap (fun g s a S=>?_) h
 obtain⟨v,q1,b,k,q2,rfl⟩:=X0M S hx
 obtain⟨u,p1,p2⟩:=X0M S hy
 obtain⟨us,p3,p4⟩:=X3S p2 hds
 obtain⟨hl,⟨e1,_⟩ | ⟨b',k',vs,e1,r2,r3⟩⟩:=S.obj j _ _ q2 hL
 · cases e1
 cases e1
 have hlen:us.length=m:=by rw [← p4.length];exact hm
 have hle:o+us.length≤vs.length:=by rw [hlen,← r3.length];exact ho
 have R:=F2.over r3.dl p4 o (g:=g)
 refine⟨undef,_,g,?_,S.write q2 hL r2 (vs':=over vs o us) ⟨?_,.inr ⟨b,k,_,rfl,X3R,?_⟩⟩ (fun _ q=>by cases q),trivial⟩
 ·
  simp only [X0c,q1,p1,X8F,p3,hs,hlen,Nat.beq_refl]
  unfold AH.wrL
  rw [r2]
  simp only [hle,and_self,if_true]
 · rw [← hl,R.length,X9S _ _ _ hle,r3.length]
 ·
  have K:=X2V (B':=⟨over vs o us,k,true,e⟩) r2 rfl
  have R':F2 (CR (MM C.M g) a) (cs.take o++ds++cs.drop (o+ds.length)) (over vs o us):=by
   unfold over
   rw [← p4.length]
   exact((r3.take o).append (p4.cr hcr)).append (r3.drop _)
  refine R'.mono fun x y r=>r.mono K (fun x q=>?_) (fun _ _ m=>m)
  subst q
  exact .inr (Gh.mem_cls.2 ⟨j,b,q2⟩)
theorem OD.slSl {t:TypeId} {x:Operand} {lo hi:Option Operand} {e n lw u:Nat} {cs:List D} (hx:zd E x=some (.sl e n cs)) (ht:X3j P t=some e)
  (hlo:(lo=none∧lw=0)∨∃ o k,lo=some o∧zd E o=some (.int k (lw:Int))) (hhi:(hi=none∧u=n)∨∃ o k,hi=some o∧zd E o=some (.int k (u:Int))) (h1:lw≤u) (h2:u≤n)
  (h:OD P ov C ops l ⟨pt C.nt E dst (.sl e (u - lw) ((cs.drop (lw*e)).take ((u - lw)*e))),L⟩ q):OD P ov C ops (⟨dst,.slice t x lo hi none,ty,pos,after,none⟩::l) ⟨E,L⟩ q:=by
 refine OD.plain (fun g s a S=>?_) h
 obtain⟨elem,hu,hs⟩:=X3T ht
 obtain⟨vx,q1,q2⟩:=X0M S hx
 have hlo':∃ ol,X95 s lo=some ol∧∀ d,(d=0)→X14 ol d=some lw:=by
  rcases hlo with⟨rfl,rfl⟩ | ⟨o,k,rfl,ho⟩
  · exact⟨none,rfl,fun d e=>by rw [e];rfl⟩
  ·
   obtain⟨v,r1,r2⟩:=X0M S ho
   cases r2
   exact⟨some (.int k (lw:Int)),by simp only [X95,r1],fun d _=>by simp [X14]⟩
 have hhi':∃ oh,X95 s hi=some oh∧X14 oh n=some u:=by
  rcases hhi with⟨rfl,rfl⟩ | ⟨o,k,rfl,ho⟩
  · exact⟨none,rfl,rfl⟩
  ·
   obtain⟨v,r1,r2⟩:=X0M S ho
   cases r2
   exact⟨some (.int k (u:Int)),by simp only [X95,r1],by simp [X14]⟩
 obtain⟨ol,l1,l2⟩:=hlo'
 obtain⟨oh,u1,u2⟩:=hhi'
 rcases CR.sl_inv q2 with⟨rfl,rfl,rfl⟩ | ⟨b,i,c,rfl,hc,hsl⟩
 ·
  have hu0:u=0:=by omega
  have hl0:lw=0:=by omega
  subst hu0 hl0
  refine⟨.slice none 0 0,?_,?_⟩
  ·
   simp only [X0c,q1,l1,u1]
   refine X0O ?_
   simp only [X3i,X26,hu,hs,l2 0 rfl,u2]
  ·
   simp only [Nat.zero_mul,List.drop_nil,List.take_nil,Nat.sub_self]
   exact CR.nil
 ·
  obtain⟨B,g1,g2,g3,g4,g5,g6,g7⟩:=hsl.ex
  refine⟨.slice (some ⟨b,i+lw*e,none⟩) (u - lw) (c - lw),?_,?_⟩
  ·
   simp only [X0c,q1,l1,u1]
   refine X0O ?_
   have c1:Nat.ble lw u=true:=by simpa using h1
   have c2:Nat.ble u c=true:=by simp;omega
   have c3:Nat.beq B.e e=true:=by rw [g4];exact Nat.beq_refl _
   simp only [X3i,hu,hs,l2 0 rfl,u2,g1,c1,c2,c3,Bool.and_self]
  ·
   have e1:n*e=lw*e+(u - lw)*e+(n - u)*e:=by rw [← Nat.add_mul,← Nat.add_mul];congr 1;omega
   refine XBG.cr ⟨B,g1,g2,g3,g4,?_,by omega,fun j d hd=>?_⟩ (by omega)
   · rw [List.length_take,List.length_drop,g5];omega
   ·
    rw [List.getElem?_take]at hd
    split at hd
    case isFalse=>cases hd
    rw [List.getElem?_drop]at hd
    obtain⟨v,r1,r2⟩:=g7 _ _ hd
    exact⟨v,by rw [Nat.add_assoc];exact r1,r2⟩
theorem OD.slR {t:TypeId} {x:Operand} {lo hi:Option Operand} {j o n c e n' lw u:Nat} {cs:List D} (hx:zd E x=some (.row j o n c)) (hL:L[j]?=some (.row e n' cs)) (ht:X3j P t=some e)
  (hlo:(lo=none∧lw=0)∨∃ o k,lo=some o∧zd E o=some (.int k (lw:Int))) (hhi:(hi=none∧u=n)∨∃ o k,hi=some o∧zd E o=some (.int k (u:Int))) (h1:lw≤u) (h2:u≤c) (h3:0<n)
  (h:OD P ov C ops l ⟨pt C.nt E dst (.row j (o+lw*e) (u - lw) (c - lw)),L⟩ q):OD P ov C ops (⟨dst,.slice t x lo hi none,ty,pos,after,none⟩::l) ⟨E,L⟩ q:=by
 refine OD.plain (fun g s a S=>?_) h
 obtain⟨elem,hu,hs⟩:=X3T ht
 obtain⟨vx,q1,q2⟩:=X0M S hx
 have hlo':∃ ol,X95 s lo=some ol∧X14 ol 0=some lw:=by
  rcases hlo with⟨rfl,rfl⟩ | ⟨o,k,rfl,ho⟩
  · exact⟨none,rfl,rfl⟩
  ·
   obtain⟨v,r1,r2⟩:=X0M S ho
   cases r2
   exact⟨some (.int k (lw:Int)),by simp only [X95,r1],by simp [X14]⟩
 have hhi':∃ oh,X95 s hi=some oh∧X14 oh n=some u:=by
  rcases hhi with⟨rfl,rfl⟩ | ⟨o,k,rfl,ho⟩
  · exact⟨none,rfl,rfl⟩
  ·
   obtain⟨v,r1,r2⟩:=X0M S ho
   cases r2
   exact⟨some (.int k (u:Int)),by simp only [X95,r1],by simp [X14]⟩
 obtain⟨ol,l1,l2⟩:=hlo'
 obtain⟨oh,u1,u2⟩:=hhi'
 rcases q2 with⟨_,rfl,_,_⟩ | ⟨b,k,hg,rfl⟩
 · omega
 obtain⟨_,⟨e1,_⟩ | ⟨b',k',vs,e1,r2,r3⟩⟩:=S.obj j _ _ hg hL
 · cases e1
 cases e1
 refine⟨.slice (some ⟨b,o+lw*e,none⟩) (u - lw) (c - lw),?_,.inr ⟨b,k,hg,rfl⟩⟩
 simp only [X0c,q1,l1,u1]
 refine X0O ?_
 have c1:Nat.ble lw u=true:=by simpa using h1
 have c2:Nat.ble u c=true:=by simpa using h2
 simp only [X3i,hu,hs,l2,u2,r2,c1,c2,Nat.beq_refl,Bool.and_self]
end
end Go.Vai

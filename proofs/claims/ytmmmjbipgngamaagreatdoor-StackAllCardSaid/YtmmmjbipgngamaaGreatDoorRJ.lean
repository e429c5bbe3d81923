/-
  What is proved here: a region in which a box is not turned: its cells may be looked at ahead of the calls or behind them  stacks; rows that are built as objects; an object's place that is used anew (part RK). signs of texts, parts of texts, remainders and shifts of numbers that are not known (part RL). No conditions but those that the theorems state.
-/
import Derived.Test.YtmmmjbipgngamaaGreatDoorRI
set_option linter.unusedVariables false
set_option linter.unusedSimpArgs false
namespace Go.Vai
noncomputable section
variable {P:Program} {ov:Ov} {C:Cx0}
def X0s (b o:Nat):D:=.lit (.pointer (some ⟨b,o,none⟩))
def lo1 (j b:Nat):D→D
 | .loc i o=>bif Nat.beq i j then X0s b o else .loc i o
 | .row i o n c=>bif Nat.beq i j then .any else .row i o n c
 | d=>d
def lo2 (j b:Nat):D→D
 | .agg ds=>.agg (ds.map (lo1 j b))
 | .clo f ds=>.clo f (ds.map (lo1 j b))
 | d=>lo1 j b d
def loD (j b:Nat):D→D
 | .tup ds=>.tup (ds.map (lo2 j b))
 | d=>lo2 j b d
section
variable {M M2:Nat→Prop} {g g2:Gh} {a:AH} {j b k:Nat} (hj:g[j]?=some (some (b,k))) (hm:∀ x,M2 x→M x) (hg:∀ (i:Nat),i≠j→∀ x,g[i]?=some x→g2[i]?=some x)
include hj hm hg
theorem DL.lo {d:D} {v:Value} (h:DL M g a d v):DL M2 g2 a (lo1 j b d) v:=by
 have K:=X1C.refl (fun _=>False) a
 cases d with
 | loc i o =>
  obtain⟨b',k',e1,e2⟩:=h
  simp only [lo1]
  cases e:Nat.beq i j with
  | true =>
   have:i=j:=by simpa using e
   subst this
   rw [hj]at e1;cases e1
   simp only [cond_true]
   subst e2
   exact CR.lit rfl
  | false=>exact⟨b',k',hg i (by rintro rfl;simp at e) _ e1,e2⟩
 | row i o n c =>
  simp only [lo1]
  cases e:Nat.beq i j with
  | true=>simp only [cond_true];trivial
  | false =>
   have hne:i≠j:=by rintro rfl;simp at e
   rcases h with⟨h1,h2⟩ | ⟨b',k',h1,h2⟩
   · exact .inl ⟨hg i hne _ h1,h2⟩
   · exact .inr ⟨b',k',hg i hne _ h1,h2⟩
 | ep e n cs o=>obtain⟨b',i,h1,h2⟩:=h;exact⟨b',i,h1,h2.mono K (fun _ f=>f.elim) fun k _ m=>hm k m⟩
 | bx cs o=>obtain⟨b',h1,h2⟩:=h;exact⟨b',h1,h2.mono K (fun _ f=>f.elim) fun k _ m=>hm k m⟩
 | any=>trivial
 | cmp=>exact h
 | agg ds=>cases h
 | clo f ds=>cases h
 | tup ds=>cases h
 | _=>exact CR.mono h K (fun _ f=>f.elim) fun k _ m=>hm k m
theorem D1.lo {d:D} {v:Value} (h:D1 M g a d v):D1 M2 g2 a (lo2 j b d) v:=by
 rcases X3N d with⟨ds,rfl⟩ | ⟨f0,ds,rfl⟩ | e
 ·
  obtain⟨vs,e1,e2⟩:=h
  refine⟨vs,e1,?_⟩
  clear e1
  induction e2 with
  | nil=>exact .nil
  | cons h t ih=>exact .cons (DL.lo hj hm hg h) ih
 ·
  obtain⟨vs,e1,e2⟩:=h
  refine⟨vs,e1,?_⟩
  clear e1
  induction e2 with
  | nil=>exact .nil
  | cons h t ih=>exact .cons (DL.lo hj hm hg h) ih
 ·
  rw [e]at h
  have:lo2 j b d=lo1 j b d:=by
   cases d with
   | agg ds=>cases h
   | clo f ds=>cases h
   | _=>rfl
  rw [this]
  exact(DL.lo hj hm hg h).d1
theorem DR.lo {d:D} {v:Value} (h:DR M g a d v):DR M2 g2 a (loD j b d) v:=by
 rcases X3w d with⟨ds,rfl⟩ | e
 ·
  obtain⟨vs,e1,e2⟩:=h
  refine⟨vs,e1,?_⟩
  clear e1
  induction e2 with
  | nil=>exact .nil
  | cons h t ih=>exact .cons (D1.lo hj hm hg h) ih
 ·
  rw [e]at h
  have:loD j b d=lo2 j b d:=by
   cases d with
   | tup ds=>cases h
   | _=>rfl
  rw [this]
  exact(D1.lo hj hm hg h).dr
end
def XGj (M1:Nat→Prop) (a1:AH) (g1:Gh) (b:Nat) (cs:List D):Prop:=∃ k vs,a1.blk b=some ⟨vs,k,true,0⟩∧k ∉ g1.cls∧M1 k∧F2 (CR (MM M1 g1) a1) cs vs
theorem XGj.at {nt:Nat} {M1:Nat→Prop} {a1:AH} {g1:Gh} {bx:Nat→Prop} {b:Nat} {cs:List D} {σ:SD} {g:Gh} {s:Env} {a:AH} (h:XGj M1 a1 g1 b cs) (S:SR ⟨nt,M1,a1,g1,bx⟩ σ g s a):∃ k vs,a1.blk b=some ⟨vs,k,true,0⟩∧a.blk b=some ⟨vs,k,true,0⟩∧k ∉ g1.cls∧M1 k∧F2 (CR (MM M1 g) a) cs vs:=by
 obtain⟨k,vs,h1,h2,h3,h4⟩:=h
 refine⟨k,vs,h1,S.kp.blk _ _ h1 h2,h2,h3,h4.mono fun d v r=>r.mono S.kp (fun k m=>.inr m) fun k hk m=>?_⟩
 rcases m with m | m
 · exact .inl m
 ·
  rcases(S.nm k m).2.2 with q | q
  · exact .inr q
  ·
   have q:a1.next≤k:=q
   omega
def BkD (b:Nat) (E:X0m):List (Nat×Nat)→Prop
 | []=>True
 | (t,o)::l=>lk E t=some (X0s b o)∧BkD b E l
def bkE (j:Nat):List (Nat×Nat)→X0m→X0m
 | [],E=>E
 | (t,o)::l,E=>setv t (.loc j o) (bkE j l E)
end
end Go.Vai
namespace Go.Vai
noncomputable section
variable {P:Program} {ov:Ov} {C:Cx0}
variable {ops:Array Oper} {dst:Option Nat} {ty:TypeId} {pos:String} {after:Array Edge} {l:List Oper} {E:X0m} {L:List Ob} {q:SD→Prop} {α:Type}
theorem OD.bslR {t:TypeId} {len:Nat} {parts:Array (Nat×Operand)} {ps:List (Nat×D)} {e:Nat} {cs:List D} (hp:zdP E parts.toList=some ps) (hr:X6w P t len ps=some (e,cs))
  (h:OD P ov C ops l ⟨pt C.nt E dst (.row L.length 0 len len),L++[.row e len cs]⟩ q):OD P ov C ops (⟨dst,.buildSlice t len parts,ty,pos,after,none⟩::l) ⟨E,L⟩ q:=by
 refine OD.heap (fun g s a S=>?_) h
 obtain⟨vs,q1,q2⟩:=XBR S hp
 unfold X6w at hr
 split at hr
 case h_2=>cases hr
 rename_i e' zs by_ ht
 split at hr
 case h_2=>cases hr
 rename_i hle
 split at hr
 case h_2=>cases hr
 rename_i cs' hf
 split at hr
 case h_2=>cases hr
 rename_i hall
 cases hr
 unfold XFV at ht
 split at ht
 case h_2=>cases ht
 rename_i elem hu
 split at ht
 case h_2=>cases ht
 rename_i e'' zs' i h1 h2 h3
 split at ht
 case h_2=>cases ht
 rename_i hc
 simp only [Option.some.injEq,Prod.mk.injEq]at ht
 obtain⟨rfl,rfl,rfl⟩:=ht
 simp only [Bool.and_eq_true,Nat.beq_eq,Nat.blt_eq]at hc hall
 unfold X5D at h2
 split at h2
 case h_2=>cases h2
 rename_i z hz
 have hzc:=X6F (M:=MM C.M g) (g:=g) (a:=a) (X0W hz) h2
 have hzs:z.cells.size=e'':=by have:=hzc.length;simp at this;omega
 have hlen:(X02 z.cells (len*e'')).length=len*e'':=X0u ..
 have R:F2 (DL (MM C.M g) g a) (X6H zs' len) (X02 z.cells (len*e'')):=by
  refine F2.of_get (by rw [X3P,hlen,hc.1.1]) fun j d v e1 e2=>?_
  have hj:j<len*e'':=by rw [← hlen];exact(List.getElem?_eq_some_iff.1 e2).1
  rw [X4s _ (by omega) _ _ (by rw [hc.1.1];exact hj),hc.1.1]at e1
  rw [X1t _ _ _ (by omega) hj,hzs]at e2
  obtain⟨u,r1,r2⟩:=hzc.get _ _ e1
  simp at r1
  rw [r1]at e2;cases e2
  exact r2
 obtain⟨l',f1,f2⟩:=X4r hf q2 R
 have F:=(f2.cr hall.1)
 obtain⟨S',r'⟩:=S.newRow (n:=len) (c:=len) hall.2 F (Nat.le_refl _)
 refine⟨_,_,_,?_,S',r'⟩
 have c1:Nat.beq z.cells.size e''=true:=by rw [hzs];exact Nat.beq_refl _
 have c2:Nat.blt 0 e''=true:=by simpa using hc.1.2
 have c3:Nat.beq l'.length (len*e'')=true:=by rw [← f2.length,hall.2];exact Nat.beq_refl _
 simp only [X0P,q1,X2A,hu,h1,hz,hle,c1,c2,Bool.and_self,f1,c3,XBC]
theorem OD.rowIs (j:Nat) {e n:Nat} {cs cs':List D} (hL:L[j]?=some (.row e n cs)) (hc:cs=cs') (h:OD P ov C ops l ⟨E,L.set j (.row e n cs')⟩ q):OD P ov C ops l ⟨E,L⟩ q:=by
 subst hc
 rw [XDW (o':=.dead) hL]at h
 exact h
end
end Go.Vai
namespace Go.Vai
noncomputable section
variable {P:Program} {ov:Ov} {C:Cx0}
variable {ops:Array Oper} {dst:Option Nat} {ty:TypeId} {pos:String} {after:Array Edge} {l:List Oper} {E:X0m} {L:List Ob} {q:SD→Prop} {α:Type}
theorem X0e {α β:Type} {P:Program} {f:α→Sem β} {a:α}:∀ {s:Sem α},X6O P s=some a→X6O P (s >>= f)=X6O P (f a):=by
 intro s
 induction s with
 | pure b=>intro h;cases h;rfl
 | program k ih=>intro h;exact ih P h
 | mark m k ih=>intro h;exact ih h
 | _=>intro h;cases h
theorem X4G {t:TypeId} {d:TypeDesc} (h:P.underlying t=some d):X6O P (underlying t)=some d:=by
 show X6O P (match P.underlying t with | some d=>pure d | none=>stuck "no such type")=some d
 rw [h];rfl
def sB (s:ByteArray) (i:Nat):Nat:=if h:i<s.size then(s[i]'h).toNat else 0
theorem sB_lt (s:ByteArray) (i:Nat):sB s i<256:=by
 unfold sB;split
 · exact(s[i]).toNat_lt
 · omega
theorem XAV {t:TypeId} {s:ByteArray} {k:IntKind} {i:Nat} (h:P.underlying t=some .string) (hi:i<s.size):X6O P (Instr.index t (.string s) (.int k (i:Int)))=some (.int .u8 ((sB s i:Nat):Int)):=by
 unfold Instr.index
 rw [X0e (a:=(k,(i:Int))) rfl]
 simp only
 rw [X0e (X4G h)]
 simp only
 have e:(if 0≤(i:Int)then s[(i:Int).toNat]? else none)=some s[i]:=by
  rw [if_pos (by omega),Int.toNat_natCast]
  exact ByteArray.getElem?_lt' s _ hi
 rw [e]
 simp only [sB,hi,dite_true]
 rfl
def X7f (P:Program) (t:TypeId):Bool:=match P.underlying t with
 | some .string=>true
 | _=>false
theorem X5H {t:TypeId} (h:X7f P t=true):P.underlying t=some .string:=by
 unfold X7f at h
 split at h
 · assumption
 · cases h
theorem OD.ixS {t:TypeId} {x y:Operand} {s:ByteArray} {k:IntKind} {z:Int} {i:Nat} (hx:zd E x=some (.str s)) (hy:zd E y=some (.int k z)) (ht:X7f P t=true) (hz:z=(i:Int)) (hi:i<s.size)
  (h:sB s i<256→OD P ov C ops l ⟨pt C.nt E dst (.int .u8 ((sB s i:Nat):Int)),L⟩ q):OD P ov C ops (⟨dst,.index t x y,ty,pos,after,none⟩::l) ⟨E,L⟩ q:=by
 refine OD.plain (fun g s' a S=>?_) (h (sB_lt s i))
 obtain⟨vx,q1,q2⟩:=X0C S hx
 obtain⟨vy,p1,p2⟩:=X0C S hy
 cases q2;cases p2
 subst hz
 refine⟨_,?_,CR.int⟩
 simp only [X0P,q1,p1]
 refine X0E ?_
 simp only [X7s,X1B,XAV (X5H ht) hi]
 rfl
theorem X4u {t:TypeId} {s:ByteArray} {lo hi:Option Value} {lw u:Nat} (h:P.underlying t=some .string) (hlo:(lo=none∧lw=0)∨∃ k,lo=some (.int k (lw:Int))) (hhi:(hi=none∧u=s.size)∨∃ k,hi=some (.int k (u:Int))) (h1:lw≤u) (h2:u≤s.size) :
  X6O P (Instr.sliceAt t (.string s) lo hi none)=some (.string (s.extract lw u)):=by
 unfold Instr.sliceAt
 rw [X0e (X4G h)]
 simp only
 unfold Instr.slice
 rw [X0e (X4G h)]
 simp only
 have hb:X6O P (Instr.sliceBounds false s.size s.size lo hi none)=some (lw,u,s.size):=by
  unfold Instr.sliceBounds
  rw [X0e (a:=s.size) rfl]
  have bd:∀ (k:IntKind) (v y:Nat) c,v≤y→X6O P (Instr.sliceBound (.int k (v:Int)) y c)=some v:=by
   intro k v y c hv
   unfold Instr.sliceBound
   rw [X0e (a:=(k,(v:Int))) rfl]
   simp only
   rw [if_pos (by omega),Int.toNat_natCast];rfl
  rcases hhi with⟨rfl,rfl⟩ | ⟨k2,rfl⟩
  ·
   refine(X0e (a:=s.size) rfl).trans ?_
   rcases hlo with⟨rfl,rfl⟩ | ⟨k,rfl⟩
   · exact(X0e (a:=0) rfl).trans rfl
   · exact(X0e (bd _ _ _ _ h1)).trans rfl
  ·
   refine(X0e (bd _ _ _ _ h2)).trans ?_
   rcases hlo with⟨rfl,rfl⟩ | ⟨k,rfl⟩
   · exact(X0e (a:=0) rfl).trans rfl
   · exact(X0e (bd _ _ _ _ h1)).trans rfl
 rw [if_neg (by simp)]
 exact(X0e hb).trans rfl
theorem OD.slS {t:TypeId} {x:Operand} {lo hi:Option Operand} {s:ByteArray} {lw u:Nat} (hx:zd E x=some (.str s)) (ht:X7f P t=true)
  (hlo:(lo=none∧lw=0)∨∃ o k,lo=some o∧zd E o=some (.int k (lw:Int))) (hhi:(hi=none∧u=s.size)∨∃ o k,hi=some o∧zd E o=some (.int k (u:Int))) (h1:lw≤u) (h2:u≤s.size)
  (h:OD P ov C ops l ⟨pt C.nt E dst (.str (s.extract lw u)),L⟩ q):OD P ov C ops (⟨dst,.slice t x lo hi none,ty,pos,after,none⟩::l) ⟨E,L⟩ q:=by
 refine OD.plain (fun g s' a S=>?_) h
 obtain⟨vx,q1,q2⟩:=X0C S hx
 cases q2
 have hu:=X5H ht
 refine⟨.string (s.extract lw u),?_,CR.str⟩
 simp only [X0P,q1]
 rcases hlo with⟨rfl,rfl⟩ | ⟨o,k,rfl,ho⟩
 ·
  rcases hhi with⟨rfl,rfl⟩ | ⟨o2,k2,rfl,ho2⟩
  · simp only [X4d,X33,X20,X1B,X4u hu (.inl ⟨rfl,rfl⟩) (.inl ⟨rfl,rfl⟩) h1 h2];rfl
  ·
   obtain⟨v2,r1,r2⟩:=X0C S ho2
   cases r2
   simp only [X4d,r1,X33,X20,X1B,X4u hu (.inl ⟨rfl,rfl⟩) (.inr ⟨k2,rfl⟩) h1 h2];rfl
 ·
  obtain⟨v,r1,r2⟩:=X0C S ho
  cases r2
  rcases hhi with⟨rfl,rfl⟩ | ⟨o2,k2,rfl,ho2⟩
  · simp only [X4d,r1,X33,X20,X1B,X4u hu (.inr ⟨k,rfl⟩) (.inl ⟨rfl,rfl⟩) h1 h2];rfl
  ·
   obtain⟨v2,r3,r4⟩:=X0C S ho2
   cases r4
   simp only [X4d,r1,r3,X33,X20,X1B,X4u hu (.inr ⟨k,rfl⟩) (.inr ⟨k2,rfl⟩) h1 h2];rfl
end
end Go.Vai

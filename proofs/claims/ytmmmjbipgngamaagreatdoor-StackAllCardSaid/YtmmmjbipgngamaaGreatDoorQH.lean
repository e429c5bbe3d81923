/-
  What is proved here: regions that leave their order open and lay down rows of constants that they read as texts; regions  regions in which parts of rows are taken before or behind what turns the heap (part QI). No conditions but those that the theorems state.
-/
import Derived.Test.YtmmmjbipgngamaaGreatDoorQE
set_option linter.unusedVariables false
set_option linter.unusedSimpArgs false
namespace Go.Vai
noncomputable section
variable {P:Program} {ov:Ov}
def XDB (ops:Array Oper) (i k:Nat):Bool:=Nat.blt k i && !((X0R ops).getD i 0).testBit k && (match ops[i]?,ops[k]? with
 | some o,some p=>!X0F o.op && !X0F p.op && o.guard.isNone && p.guard.isNone
 | _,_=>false)
theorem X5B {call:X0D} {nt:Nat} {ops:Array Oper} {st fin:St} {es:List Ent} (hp:X1w P call nt ops ops.toList st=some (es,fin)) {i k:Nat} (h:XDB ops i k=true) :
  k<i∧i<ops.size∧X0K es i=true∧X0K es k=true∧((X0R ops).getD i 0).testBit k=false:=by
 unfold XDB at h
 simp only [Bool.and_eq_true,Bool.not_eq_true']at h
 obtain⟨⟨h1,h2⟩,h3⟩:=h
 split at h3
 case h_2=>cases h3
 rename_i o p ho hpk
 simp only [Bool.and_eq_true,Bool.not_eq_true',Option.isNone_iff_eq_none]at h3
 obtain⟨⟨⟨r1,r2⟩,g1⟩,g2⟩:=h3
 have key:∀ (x:Nat) (o:Oper),ops[x]?=some o→X0F o.op=false→o.guard=none→X0K es x=true:=by
  intro x o ho hr hg
  obtain⟨en,q1,q2,q3,q4,q5,q6⟩:=X2R _ _ _ _ hp x o (by rw [← ho];simp)
  unfold X0K
  rw [q1]
  simp only
  rw [q4,q3,hr]
  unfold Region.wanted
  rw [hg];rfl
 exact⟨by simpa using h1,(Array.getElem?_eq_some_iff.1 ho).1,key i o ho r1 g1,key k p hpk r2 g2,h2⟩
def X8f (P:Program) (i k i' k' nt:Nat) (ops ops':Array Oper):Bool:=X7K P ops && X19 nt ops' && X19 nt ops && Nat.blt nt 1000000 && XD6 [] ops' && XDB ops i k && XDB ops i' k' && !Nat.beq i i' && !Nat.beq i k' && !Nat.beq k i' && !Nat.beq k k'
theorem Cx.drawnR (i k i' k':Nat) {nt:Nat} {s:Env} {a:AH} {Q:XAO} {id:Nat} {ops ops':Array Oper} {rl:List Oper} {W W':AH→Prop} (he:X0l P ops=ops') (hr:(X1H P 0 ops.toList).map (·.o)=rl) (ht:X8f P i k i' k' nt ops ops'=true)
  (h:X31 P ov nt ops' W ops'.toList s a fun s' a'=>(∀ d∈X4C ops',veq (s' d) (s' d)=true)∧X31 P ov nt ops' W' rl s' a' Q.n):Cx P ov nt (.region id ops true) s a Q:=by
 subst he hr
 simp only [X8f,Bool.and_eq_true,Bool.not_eq_true']at ht
 obtain⟨⟨⟨⟨⟨⟨⟨⟨⟨⟨hst,hb⟩,hb0⟩,hn⟩,ho⟩,hc1⟩,hc2⟩,n1⟩,n2⟩,n3⟩,n4⟩:=ht
 have hn:nt<1000000:=by simpa using hn
 have hs:X0r (X0l P ops)=true:=by
  unfold X7K at hst
  simp only [Bool.and_eq_true]at hst
  exact hst.2
 intro tm hp hgd A
 obtain⟨st,a',⟨K,e⟩,A',q,h2⟩:=h tm hp hgd A
 obtain⟨st2,a2,⟨K2,e2⟩,A2,q2⟩:=h2 st.tm st.h (fun _=>rfl) A'
 refine⟨.normal,st2,a2,⟨K+K2+1,fun m hm=>?_⟩,A2,q2⟩
 cases m with
 | zero=>omega
 | succ m =>
  show X0B P ov (X0O P) (exec P ov (X0O P) m) false nt (.region id ops true) ⟨tm,hp⟩=_
  have hd:XCX P (X2i P ov m) nt ops ⟨tm,hp⟩=some st2:=by
   obtain⟨es,he⟩:=X8c _ _ _ (e m (by omega)).1
   have hdyn:=XEP hs hb hn ho he (e m (by omega)).2 Frz.none q
   simp only [XCX,hst,hb,hb0,Bool.and_self,X2L,he,hdyn]
   exact(e2 m (by omega)).1
  have hbeq:∀ {x y:Nat},Nat.beq x y=false→x≠y:=fun h e=>by rw [e,Nat.beq_refl]at h;cases h
  have hboth:X0O P (X2i P ov m) nt ops ⟨tm,hp⟩=some st2:=by
   unfold X0O
   cases hda:X9E P (X2i P ov m) nt ops ⟨tm,hp⟩with
   | some s1 =>
    exfalso
    unfold X9E at hda
    split at hda
    case h_2=>cases hda
    split at hda
    case h_2=>cases hda
    rename_i es fin hps
    rw [X2L]at hps
    split at hda
    case h_2=>cases hda
    rename_i hdy
    obtain⟨c1,c2,c3,c4,c5⟩:=X5B hps hc1
    rw [X9F hdy c2 c3 c4 c1]at c5;cases c5
   | none =>
    simp only
    cases hdl:X8N P (X2i P ov m) nt ops ⟨tm,hp⟩with
    | none=>exact hd
    | some s1 =>
     exfalso
     unfold X8N at hdl
     split at hdl
     case h_2=>cases hdl
     split at hdl
     case h_2=>cases hdl
     rename_i es fin hps
     rw [X2L]at hps
     split at hdl
     case h_2=>cases hdl
     rename_i hdy
     simp only [Bool.and_eq_true,List.any_eq_true,List.mem_range]at hdy
     obtain⟨_,i0,_,_,hlo⟩:=hdy
     have L:=X4b hlo
     obtain⟨c1,c2,c3,c4,c5⟩:=X5B hps hc1
     obtain⟨d1,d2,d3,d4,d5⟩:=X5B hps hc2
     by_cases h1:i≠i0∧k≠i0
     · rw [L.m i c2 c3 h1.1 k c1 h1.2 c4]at c5;cases c5
     ·
      have h2:i'≠i0∧k'≠i0:=by
       have:=hbeq n1;have:=hbeq n2;have:=hbeq n3;have:=hbeq n4
       omega
      rw [L.m i' d2 d3 h2.1 k' d1 h2.2 d4]at d5;cases d5
  simp only [X0B,hboth]
theorem X6p:∀ (l:List Oper) (o:Oper) (acc:List Nat),X1M acc (l++[o])=X1M acc l++[XCS (X1M acc l) o]:=by
 intro l
 induction l with
 | nil=>intro o acc;rfl
 | cons x l ih=>intro o acc;simp only [List.cons_append,X1M];exact ih o _
theorem X4f:∀ (l:List Oper) (acc:List Nat),(X1M acc l).length=acc.length+l.length:=by
 intro l
 induction l with
 | nil=>intro acc;rfl
 | cons x l ih=>intro acc;simp only [X1M,ih,List.length_append,List.length_cons,List.length_nil];omega
theorem X4D {ops:Array Oper} {o:Oper} {i:Nat} (h:i<ops.size):(X0R (ops.push o)).getD i 0=(X0R ops).getD i 0:=by
 unfold X0R
 rw [Array.toList_push,X6p,List.getD_eq_getElem?_getD,List.getElem?_append_left (by rw [X4f];simpa using h),← List.getD_eq_getElem?_getD]
theorem XBM {call:X0D} {nt:Nat} {ops ops':Array Oper}:∀ (l:List Oper) (st:St),(∀ o∈l,o.guard=none)→X1w P call nt ops l st=X1w P call nt ops' l st:=by
 intro l
 induction l with
 | nil=>intro st _;rfl
 | cons o l ih =>
  intro st h
  have hw:∀ y,Region.wanted o y=true:=fun y=>by unfold Region.wanted;rw [h o (List.mem_cons_self ..)]
  simp only [X1w,hw]
  split
  · rw [ih _ fun p hp=>h p (List.mem_cons_of_mem _ hp)]
  · rfl
theorem XDC {call:X0D} {nt:Nat} {ops:Array Oper} {o:Oper} (hw:∀ y,Region.wanted o y=true):∀ (l:List Oper) (st:St) (es:List Ent) (fin:St),X1w P call nt ops l st=some (es,fin)→∀ v h',X05 P call o fin.tm fin.h=some (v,h') →
  X1w P call nt ops (l++[o]) st=some (es++[⟨fin,v,true,!X0F o.op⟩],⟨X3U nt fin.tm o.dst v,h'⟩):=by
 intro l
 induction l with
 | nil =>
  intro st es fin h v h' hs
  simp only [X1w,Option.some.injEq,Prod.mk.injEq]at h
  obtain⟨rfl,rfl⟩:=h
  simp only [List.nil_append,X1w,hw,hs]
 | cons x l ih =>
  intro st es fin h v h' hs
  simp only [X1w]at h
  simp only [List.cons_append,X1w]
  split at h
  ·
   rename_i hwx
   split at h
   case h_2=>cases h
   rename_i v1 h1 hs1
   split at h
   case h_2=>cases h
   rename_i es' fin' he
   cases h
   simp only [ih _ _ _ he v h' hs];rfl
  ·
   rename_i hwx
   split at h
   case h_2=>cases h
   rename_i es' fin' he
   cases h
   simp only [ih _ _ _ he v h' hs];rfl
theorem XBN {e:Ent} {fin:St} (hm:e.mut_=true):∀ es:List Ent,X0o (es++[e]) fin=X0o es e.st++[fin.h]:=by
 intro es
 induction es with
 | nil=>simp only [List.nil_append,X0o,hm];rfl
 | cons x es ih =>
  simp only [List.cons_append,X0o]
  split<;>simp only [ih,List.cons_append]
theorem X8g (e:Ent):∀ (es:List Ent) (i:Nat),i≤es.length→cnt (es++[e]) i=cnt es i:=by
  intro es
  induction es with
  | nil => intro i hi; have : i = 0 := by simpa using hi
           subst this;rfl
  | cons x es ih =>
    intro i hi
    cases i with
    | zero=>rfl
    | succ i=>simp only [List.cons_append,cnt];rw [ih i (by simpa using hi)]
theorem X7c {e:Ent} {es:List Ent} {i:Nat} (h:i<es.length):X0K (es++[e]) i=X0K es i:=by
 unfold X0K
 rw [List.getElem?_append_left h]
theorem X8h {f:Nat→Bool}:∀ {n:Nat},allTo f n=false→∃ i,i<n∧f i=false:=by
 intro n
 induction n with
 | zero=>intro h;cases h
 | succ n ih =>
  intro h
  simp only [allTo]at h
  split at h
  · obtain⟨i,h1,h2⟩:=ih h;exact⟨i,by omega,h2⟩
  · rename_i hf;exact⟨n,by omega,hf⟩
theorem X9b {f:Nat→Bool} {n i:Nat} (hi:i<n) (h:f i=false):allTo f n=false:=by
 cases e:allTo f n with
 | false=>rfl
 | true=>rw [X09 e i hi]at h;cases h
theorem XDD {call:X0D} {opsP:Array Oper} {o:Oper} {es:List Ent} {finP fin:St} {v:Value} (hlen:es.length=opsP.size) (hnm:es.any (·.mut_)=false→(X0o es finP).length=1) (hz:allTo (fun i=>((X0R (opsP.push o)).getD opsP.size 0).testBit i) opsP.size=true)
  (h:X3c P call opsP es finP=true):X3c P call (opsP.push o) (es++[⟨finP,v,true,true⟩]) fin=true:=by
 have hany:(es++[(⟨finP,v,true,true⟩:Ent)]).any (fun x=>x.mut_)=true:=by simp
 have hH:X0o (es++[⟨finP,v,true,true⟩]) fin=X0o es finP++[fin.h]:=XBN (e:=⟨finP,v,true,true⟩) rfl es
 have hmz:X0K (es++[⟨finP,v,true,true⟩]) opsP.size=true:=by
  unfold X0K
  rw [← hlen,List.getElem?_append_right (Nat.le_refl _),Nat.sub_self];rfl
 obtain⟨hl,_⟩:=X29 es finP
 unfold X3c
 rw [hany]
 refine X1c fun i hi=>?_
 rw [Array.size_push]at hi
 rcases Nat.lt_or_ge i opsP.size with hlt | hge
 ·
  have e1:(es++[⟨finP,v,true,true⟩])[i]?=es[i]?:=List.getElem?_append_left (by omega)
  have e2:(opsP.push o)[i]?=opsP[i]?:=by rw [Array.getElem?_push,if_neg (by omega)]
  rw [e1,e2]
  obtain⟨e,he⟩:∃ e,es[i]?=some e:=⟨es[i],List.getElem?_eq_getElem (by omega)⟩
  obtain⟨p,hp⟩:∃ p,opsP[i]?=some p:=⟨opsP[i],Array.getElem?_eq_getElem hlt⟩
  rw [he,hp]
  simp only
  cases hm:e.mut_ with
  | true =>
   have hanyP:es.any (·.mut_)=true:=List.any_eq_true.2 ⟨e,List.mem_of_getElem? he,hm⟩
   unfold X3c at h
   rw [hanyP]at h
   have h1:=X09 h i hlt
   rw [he,hp]at h1
   simp only [hm]at h1
   refine X7b h1 fun k hk q=>?_
   rw [X7c (by omega),X4D hlt];exact q
  | false =>
   cases hw:e.want with
   | false=>rfl
   | true =>
    simp only
    refine X1c fun j hj=>?_
    rw [hH]at hj ⊢
    rw [List.length_append,List.length_cons,List.length_nil]at hj
    rw [X8g _ es i (by omega)]
    rcases Nat.lt_or_ge j (X0o es finP).length with hjl | hjg
    ·
     rw [List.getElem?_append_left hjl]
     cases hanyP:es.any (·.mut_)with
     | false =>
      have h1:=hnm hanyP
      have hc:cnt es i≤cnt es es.length:=XA8 es (by omega) (Nat.le_refl _)
      have:j=cnt es i:=by omega
      rw [this,Nat.beq_refl];rfl
     | true =>
      unfold X3c at h
      rw [hanyP]at h
      have h1:=X09 h i hlt
      rw [he,hp]at h1
      simp only [hm,hw]at h1
      have h2:=X09 h1 j hjl
      simp only [Bool.or_eq_true]at h2 ⊢
      rcases h2 with(h2 | h2) | h2
      · exact .inl (.inl h2)
      ·
       refine .inl (.inr ?_)
       simp only [Bool.not_eq_true']at h2 ⊢
       obtain⟨k,k1,k2⟩:=X8h h2
       refine X9b (i:=k) (by rw [Array.size_push];omega) ?_
       rw [X7c (by omega),X4D hlt,X4D k1,X8g _ es k (by omega)];exact k2
      · exact .inr h2
    ·
     have hje:j=(X0o es finP).length:=by omega
     have:allTo (fun k=>!X0K (es++[⟨finP,v,true,true⟩]) k || ((!((X0R (opsP.push o)).getD i 0).testBit k || Nat.blt (cnt (es++[⟨finP,v,true,true⟩]) k) j) && (!((X0R (opsP.push o)).getD k 0).testBit i || Nat.ble j (cnt (es++[⟨finP,v,true,true⟩]) k)))) (opsP.push o).size=false:=by
      refine X9b (i:=opsP.size) (by simp) ?_
      have hb:((X0R (opsP.push o)).getD opsP.size 0).testBit i=true:=X09 hz i hlt
      rw [hmz,hb,X8g _ es opsP.size (by omega)]
      have hble:Nat.ble j (cnt es opsP.size)=false:=by
       cases hx:Nat.ble j (cnt es opsP.size)with
       | false=>rfl
       | true =>
        have:=Nat.le_of_ble_eq_true hx
        rw [← hlen]at this;omega
      rw [hble];simp
     rw [this];simp
 ·
  have hie:i=opsP.size:=by omega
  subst hie
  have e1:(es++[⟨finP,v,true,true⟩])[opsP.size]?=some ⟨finP,v,true,true⟩:=by rw [← hlen,List.getElem?_append_right (Nat.le_refl _),Nat.sub_self];rfl
  rw [e1,Array.getElem?_push_size]
  simp only
  refine X7b hz fun k hk q=>?_
  rw [q];simp
end
end Go.Vai
namespace Go.Vai
noncomputable section
variable {P:Program} {ov:Ov}
def X9c (ops:Array Oper) (i x:Nat):Bool:=allTo (fun k=>Nat.blt k i || (match ops[k]? with
 | some p=>!X9D p x
 | none=>true)) ops.size
def XFJ (ops:Array Oper) (i:Nat):Option Operand→Bool
 | none=>true
 | some (.tmp y)=>X9c ops i y
 | some (.const _)=>true
 | _=>false
def XGZ (ops:Array Oper) (i:Nat):Option (TypeId×Nat×Option Operand×Option Operand):=match ops[i]? with
 | some o=>match o.op with
  | .slice t (.tmp x) lo hi none=>match X9c ops i x && XFJ ops i lo && XFJ ops i hi with
   | true=>some (t,x,lo,hi)
   | false=>none
  | _=>none
 | none=>none
theorem X8i {ops:Array Oper} {i x:Nat} (h:X9c ops i x=true):∀ (k:Nat) p,i≤k→ops[k]?=some p→p.dst≠some x:=fun k p hk hp hd=>by
 have hlt:k<ops.size:=(Array.getElem?_eq_some_iff.1 hp).1
 have:=X09 h k hlt
 rw [hp]at this
 simp only [Bool.or_eq_true,Nat.blt_eq,Bool.not_eq_true']at this
 rcases this with h1 | h1
 · omega
 · rw [X47.2 hd]at h1;cases h1
def FrzC (P:Program) (ops:Array Oper) (W:AH→Prop) (fs:List Nat) (s:Env):Prop :=
 ∀ i∈fs,∀ t x lo hi,XGZ ops i=some (t,x,lo,hi)→∃ ol oh v,X4d s lo=some ol∧X4d s hi=some oh∧∀ a',W a'→X33 P a' t (s x) ol oh=some v
def X9d (ops:Array Oper) (i:Nat):Bool:=match ops[i]? with
 | none=>false
 | some o=>match X0F o.op with
  | false=>allTo (fun k=>match ops[k]? with
   | some p=>X0F p.op || ((X0R ops).getD i 0).testBit k
   | none=>true) i
  | true=>true
theorem XFK {call:X0D} {nt:Nat} {ops:Array Oper} {st fin:St} {es:List Ent} (ho:∀ i,i<ops.size→X9d ops i=true)
  (hp:X1w P call nt ops ops.toList st=some (es,fin)) (hR:X2w P call ops es fin=true):X3c P call ops es fin=true:=by
 have hmut:=X6o hp
 unfold X3c
 unfold X2w at hR
 cases hany:es.any (·.mut_)with
 | false=>rfl
 | true =>
  rw [hany]at hR
  simp only at hR ⊢
  refine X1c fun i hi=>?_
  have h1:=X09 hR i hi
  have hord:=ho i hi
  unfold X9d at hord
  obtain⟨en,q1,q2,q3,q4,q5,q6⟩:=X2R _ _ _ _ hp i ops[i] (by simp [hi])
  have hoi:ops[i]?=some ops[i]:=by simp [hi]
  rw [q1,hoi]at h1 ⊢
  rw [hoi]at hord
  simp only at h1 hord ⊢
  cases hm:en.mut_ with
  | true =>
   rw [hm]at q4
   have hr:X0F ops[i].op=false:=by
    have:=q4.symm;simp only [Bool.and_eq_true,Bool.not_eq_true']at this;exact this.2
   rw [hr]at hord
   simp only at hord ⊢
   refine X1c fun k hk=>?_
   cases hmk:X0K es k with
   | false=>rfl
   | true =>
    obtain⟨p,hp1,hp2⟩:=hmut k hmk
    have:=X09 hord k hk
    rw [hp1]at this
    simp only [hp2,Bool.false_or]at this
    rw [this];rfl
  | false=>rw [hm]at h1;exact h1
def spC (fs:List Nat) (ops:Array Oper) (i:Nat):Bool:=fs.any (Nat.beq i) && (XGZ ops i).isSome
def XEQ (fz fs:List Nat) (ops:Array Oper):Bool:=allTo (fun i=>X9d ops i && ((spC fs ops i && XD9 ops i) || ordAt fz ops i)) ops.size
theorem XFL {call:X0D} {nt:Nat} {ops:Array Oper} {W:AH→Prop} {fz fs:List Nat} {st fin:St} {es:List Ent} (hs:X0r ops=true) (hb:X19 nt ops=true) (hnt:nt<1000000) (ho:XEQ fz fs ops=true)
  (hp:X1w P call nt ops ops.toList st=some (es,fin)) (hwf:X6m P call nt ops W ops.toList st) (hfz:Frz P ops W fz (gd fin.tm)) (hfc:FrzC P ops W fs (gd fin.tm)) (hl:∀ d∈X4C ops,veq (gd fin.tm d) (gd fin.tm d)=true):X3c P call ops es fin=true:=by
 have h0:∀ i,i<ops.size→X9d ops i=true∧((spC fs ops i=true∧XD9 ops i=true)∨ordAt fz ops i=true):=fun i hi=>by
  have:=X09 ho i hi
  simpa only [Bool.and_eq_true,Bool.or_eq_true]using this
 refine XFK (fun i hi=>(h0 i hi).1) hp (XBL hs hb hnt (spC fs ops) (fun i hi=>(h0 i hi).2) hp hwf hfz (fun i hi en h2 h' j sp q1 hh p1=>?_) hl)
 simp only [spC,Bool.and_eq_true,List.any_eq_true]at sp
 obtain⟨⟨y,y1,y2⟩,hsx⟩:=sp
 have:i=y:=by simpa using y2
 subst this
 cases hfx:XGZ ops i with
 | none=>rw [hfx]at hsx;cases hsx
 | some tx =>
 obtain⟨t,x,lo,hi'⟩:=tx
 obtain⟨ol,oh,v,z1,z2,z3⟩:=hfc i y1 t x lo hi' hfx
 have hoi:ops[i]?=some ops[i]:=by simp [hi]
 unfold XGZ at hfx
 rw [hoi]at hfx
 simp only at hfx
 generalize ops[i]=o at hfx p1 ⊢
 obtain⟨dst,op,ty,pos,after,guard⟩:=o
 simp only at hfx
 split at hfx
 case h_2=>cases hfx
 rename_i t' x' lo' hi''
 split at hfx
 case h_2=>cases hfx
 rename_i hk
 cases hfx
 simp only [Bool.and_eq_true]at hk
 obtain⟨⟨k1,k2⟩,k3⟩:=hk
 have sk:∀ y,X9c ops i y=true→gd en.st.tm y=gd fin.tm y:=fun y ky=>X7Z hs hb hnt hp hi q1 (X8i ky)
 have oz:∀ (w:Option Operand) (u:Option Value),XFJ ops i w=true→X4d (gd fin.tm) w=some u→X4d (gd en.st.tm) w=some u:=by
  intro w u kw zw
  cases w with
  | none=>exact zw
  | some w =>
   cases w with
   | tmp y=>simp only [X4d,zev]at zw ⊢;rw [sk y kw];exact zw
   | const c=>exact zw
   | global g=>cases kw
   | func f=>cases kw
 have o1:∀ h,X4x h en.st.tm lo=some ol:=fun h=>X3j (s:=gd en.st.tm) (fun t=>rfl) h (oz lo ol k2 z1)
 have o2:∀ h,X4x h en.st.tm hi'=some oh:=fun h=>X3j (s:=gd en.st.tm) (fun t=>rfl) h (oz hi' oh k3 z2)
 have step:∀ (h:Heap) a',Ab h a'→W a'→X05 P call ⟨dst,.slice t (.tmp x) lo hi' none,ty,pos,after,guard⟩ en.st.tm h=some (v,h):=by
  intro h a' A Wa
  have e1:=X7V A (z3 a' Wa)
  rw [← sk x k1]at e1
  have e0:aev h en.st.tm (.tmp x)=some (gd en.st.tm x):=rfl
  have e2:X4x h en.st.tm none=some none:=rfl
  simp only [X05,e0,o1,o2,e2,e1];rfl
 obtain⟨a1,A1,W1⟩:=XD8 hwf hp i en q1
 obtain⟨a2,A2,W2⟩:=X9Z hwf hp j h2 hh
 rw [step _ a1 A1 W1]at p1
 cases p1
 exact step _ a2 A2 W2
def X8j (fz fs:List Nat) (nt:Nat) (opsP:Array Oper) (o:Oper):Bool:=X0r opsP && X19 nt opsP && Nat.blt nt 1000000 && XEQ fz fs opsP && X0r (opsP.push o) && X19 nt (opsP.push o) && (opsP.push o).toList.all (fun p=>p.guard.isNone) && !X0F o.op &&
 allTo (fun i=>((X0R (opsP.push o)).getD opsP.size 0).testBit i) opsP.size
theorem Cx.drawnY {nt:Nat} {s:Env} {a:AH} {Q:XAO} {id:Nat} {opsP:Array Oper} {o:Oper} {W W':AH→Prop} {fz fs:List Nat} (ht:X8j fz fs nt opsP o=true)
  (h:X31 P ov nt opsP W opsP.toList s a fun s' a'=>(∀ d∈X4C opsP,veq (s' d) (s' d)=true)∧Frz P opsP W fz s'∧FrzC P opsP W fs s'∧X31 P ov nt opsP W' [o] s' a' Q.n):Cx P ov nt (.region id (opsP.push o) true) s a Q:=by
 simp only [X8j,Bool.and_eq_true,Bool.not_eq_true']at ht
 obtain⟨⟨⟨⟨⟨⟨⟨⟨hs,hb⟩,hn⟩,ho⟩,hs2⟩,hb2⟩,hg⟩,hro⟩,hz⟩:=ht
 have hn:nt<1000000:=by simpa using hn
 have hgn:∀ p∈(opsP.push o).toList,p.guard=none:=fun p hp=>by simpa using List.all_eq_true.1 hg p hp
 intro tm hp hgd A
 obtain⟨st,a',⟨K,e⟩,A',q,hfz,hfc,h2⟩:=h tm hp hgd A
 obtain⟨st2,a2,⟨K2,e2⟩,A2,q2⟩:=h2 st.tm st.h (fun _=>rfl) A'
 refine⟨.normal,st2,a2,⟨K+K2+1,fun m hm=>?_⟩,A2,q2⟩
 cases m with
 | zero=>omega
 | succ m =>
  show X0B P ov (X0O P) (exec P ov (X0O P) m) false nt (.region id (opsP.push o) true) ⟨tm,hp⟩=_
  have hd:X0O P (X2i P ov m) nt (opsP.push o) ⟨tm,hp⟩=some st2:=by
   obtain⟨es,he⟩:=X8c _ _ _ (e m (by omega)).1
   have hdyn:=XFL hs hb hn ho he (e m (by omega)).2 hfz hfc q
   have hlen:es.length=opsP.size:=by rw [X1E _ _ _ _ he];simp
   have hw:∀ y,Region.wanted o y=true:=fun y=>by unfold Region.wanted;rw [hgn o (by simp)]
   have e3:=(e2 m (by omega)).1
   simp only [X11]at e3
   split at e3
   case h_2=>cases e3
   rename_i st3 e4
   cases e3
   unfold X1d at e4
   rw [hw]at e4
   simp only at e4
   split at e4
   case h_2=>cases e4
   rename_i v h' hs3
   cases e4
   have hfull:=XDC (ops:=opsP.push o) hw opsP.toList ⟨tm,hp⟩ es st (by rw [← he];exact XBM _ _ (fun p hp=>hgn p (by simp only [Array.toList_push,List.mem_append];exact .inl hp))) v h' hs3
   rw [hro]at hfull
   have hdy2:=XDD (P:=P) (call:=X2i P ov m) (o:=o) (fin:=⟨X3U nt st.tm o.dst v,h'⟩) (v:=v) hlen (fun hany=>by
    obtain⟨hl,_⟩:=X29 es st
    have hz:∀ (es:List Ent),es.any (·.mut_)=false→∀ i,cnt es i=0:=by
     intro es
     induction es with
     | nil=>intro _ i;cases i<;>rfl
     | cons a es ih =>
      intro ha i
      simp only [List.any_cons,Bool.or_eq_false_iff]at ha
      cases i with
      | zero=>rfl
      | succ i=>simp only [cnt,ha.1];rw [ih ha.2]
    rw [hl,hz es hany]) hz hdyn
   unfold X0O X9E
   simp only [hs2,hb2,Bool.and_self,X2L,Array.toList_push]
   rw [hfull]
   simp only [Bool.not_false]
   rw [hdy2]
  simp only [X0B,hd]
end
end Go.Vai

/-
  What is proved here: a region that leaves its order open comes to what the text's order comes to, if by its text what tur what single operations give, as equations for proofs with variables (part QF). a region that leaves its order open and lays down one row of zeros (or of plain values) at any time  No conditions but those that the theorems state.
-/
import Derived.Test.YtmmmjbipgngamaaGreatDoorQC
set_option linter.unusedVariables false
set_option linter.unusedSimpArgs false
namespace Go.Vai
noncomputable section
variable {P:Program} {ov:Ov}
theorem X0Y {h h2 h':Heap} {o:Option Value} {v:Value} (e:X1p h o=some (v,h')):X1p h2 o=some (v,h2):=by
  cases o with
  | none=>cases e
  | some u=>cases e;rfl
theorem X8b {call:X0D} {o:Oper} {tm:Tr Value} {h h':Heap} {v:Value} (hf:XD3 o.op=true) (h2:Heap) (e:X05 P call o tm h=some (v,h')):X05 P call o tm h2=some (v,h2):=by
  obtain⟨dst,op,ty,pos,after,guard⟩:=o
  simp only [XD3,Bool.and_eq_true,List.all_eq_true]at hf
  obtain⟨hg,hop⟩:=hf
  have q:∀ x∈op.operands.toList,aev h2 tm x=aev h tm x:=fun x hx=>X3v (hg x hx)
  cases op<;>first | (cases hop;done) | skip
  case move x=>simp only [X05,q x (by simp [Op.operands])]at e ⊢;exact X0Y e
  case assign x=>simp only [X05,q x (by simp [Op.operands])]at e ⊢;exact X0Y e
  case pick c x y =>
    simp only [X05,q c (by simp [Op.operands]),q x (by simp [Op.operands]),q y (by simp [Op.operands])]at e ⊢
    split at e
    · rename_i hc;exact X0Y e
    · rename_i hc;exact X0Y e
    · cases e
  case build t parts =>
    have hp:X6V h2 tm parts.toList=X6V h tm parts.toList:=XBJ fun x hx=>hg x.2 (by simp [Op.operands];exact⟨x.1,by simpa using hx⟩)
    simp only [X05,hp]at e ⊢
    split at e
    · rename_i ps hps;(try simp only [hps]);exact X0Y e
    · cases e
  case nilCheck x =>
    simp only [X05,q x (by simp [Op.operands])]at e ⊢
    split at e
    · rename_i hc;cases e;(try simp only [hc])
    · rename_i hc;cases e;(try simp only [hc])
    · cases e
  case binOp op t x y t2 =>
    simp only [X05,q x (by simp [Op.operands]),q y (by simp [Op.operands])]at e ⊢
    split at e
    · rename_i h1 h3;(try simp only [h1,h3]);exact X0Y e
    · cases e
  case unOp op t x =>
    simp only [X05,q x (by simp [Op.operands])]at e ⊢
    split at e
    · rename_i h1
      (try simp only [h1])
      split at e
      · rename_i hp;(try simp only [hp]);exact X0Y e
      · cases e
    · cases e
  case makeInterface t x =>
    simp only [X05,q x (by simp [Op.operands])]at e ⊢
    split at e
    · rename_i h1
      (try simp only [h1])
      split at e
      · rename_i hp;(try simp only [hp]);exact X0Y e
      · cases e
    · cases e
  case makeFunc fn fi ca =>
    have e1:X3s h2 tm fi.toList=X3s h tm fi.toList:=X5A fun x hx=>hg x (by simp [Op.operands];exact .inl (by simpa using hx))
    have e2:X3s h2 tm ca.toList=X3s h tm ca.toList:=X5A fun x hx=>hg x (by simp [Op.operands];exact .inr (by simpa using hx))
    simp only [X05,e1,e2]at e ⊢
    split at e
    · rename_i h1 h3
      (try simp only [h1,h3])
      split at e
      · rename_i hp;cases e;(try simp only [hp])
      · cases e
    · cases e
  case fieldAddr t x f =>
    simp only [X05,q x (by simp [Op.operands])]at e ⊢
    split at e
    · rename_i h1;(try simp only [h1]);exact X0Y e
    · cases e
  case field t x f =>
    simp only [X05,q x (by simp [Op.operands])]at e ⊢
    split at e
    · rename_i h1;(try simp only [h1]);exact X0Y e
    · cases e
  case indexAddr t x i =>
    simp only [X05,q x (by simp [Op.operands]),q i (by simp [Op.operands])]at e ⊢
    split at e
    · rename_i h1 h3;(try simp only [h1,h3]);exact X0Y e
    · cases e
  case index t x i =>
    simp only [X05,q x (by simp [Op.operands]),q i (by simp [Op.operands])]at e ⊢
    split at e
    · rename_i h1 h3;(try simp only [h1,h3]);exact X0Y e
    · cases e
  case extract x i =>
    simp only [X05,q x (by simp [Op.operands])]at e ⊢
    split at e
    · rename_i h1;(try simp only [h1]);exact X0Y e
    · cases e
  case call c =>
    obtain⟨callee,args,ats⟩:=c
    have hl:X3s h2 tm args.toList=X3s h tm args.toList:=X5A fun x hx=>hg x (by simp [Op.operands,Call.operands];exact .inr (by simpa using hx))
    cases callee with
    | value f=>cases hop
    | invoke r m=>cases hop
    | builtin b =>
      cases b<;>first | (cases hop;done) | skip
      all_goals
        simp only [X05,hl]at e ⊢
        split at e
        · rename_i h1
          (try simp only [h1])
          first
            | exact X0Y e
            | (split at e
               · rename_i hp;(try simp only [hp]);exact X0Y e
               · cases e)
        · cases e
theorem X8c {call:X0D} {nt:Nat} {ops:Array Oper}:∀ (l:List Oper) (st fin:St),X11 P call nt ops l st=some fin→∃ es,X1w P call nt ops l st=some (es,fin):=by
  intro l
  induction l with
  | nil=>intro st fin e;simp only [X11,Option.some.injEq]at e;subst e;exact⟨[],rfl⟩
  | cons o l ih =>
    intro st fin e
    simp only [X11,X1d]at e
    cases hw:Region.wanted o (X0b ops st.tm)with
    | true =>
      rw [hw]at e
      simp only at e
      cases hs:X05 P call o st.tm st.h with
      | none=>rw [hs]at e;cases e
      | some r =>
        obtain⟨v,h'⟩:=r
        rw [hs]at e
        simp only at e
        obtain⟨es,he⟩:=ih _ _ e
        exact⟨_,by simp only [X1w,hw,hs,he];rfl⟩
    | false =>
      rw [hw]at e
      simp only at e
      obtain⟨es,he⟩:=ih _ _ e
      exact⟨_,by simp only [X1w,hw,he];rfl⟩
theorem X9Y (es:List Ent):∀ (n:Nat),n≤es.length→∀ c,c<cnt es n→∃ k,k<n∧X0K es k=true∧cnt es k=c:=by
  intro n
  induction n with
  | zero=>intro _ c hc;simp [cnt]at hc
  | succ n ih =>
    intro hn c hc
    have h1:=X4z es n (by omega)
    by_cases h:c<cnt es n
    · obtain⟨k,q1,q2,q3⟩:=ih (by omega) c h
      exact⟨k,by omega,q2,q3⟩
    · cases hm:X0K es n with
      | true=>rw [hm]at h1;simp only at h1;exact⟨n,by omega,hm,by omega⟩
      | false=>rw [hm]at h1;simp only at h1;omega
theorem X6n {ops:Array Oper} (hs:X0r ops=true) {i k:Nat} (h:((X0R ops).getD i 0).testBit k=true):k≤i:=by
  refine X0c (ops:=ops) (S:=fun j=>j≤i) ?_ (i:=i) (Nat.le_refl i) h
  intro j o ho hj e he hb
  have:=(X0L hs ho).2.1 e he hb
  show e.on≤i
  have hj':j≤i:=hj
  omega
structure X5z (h h2:Heap):Prop where
  blks:∀ b B,h.blks.get b=some B→h2.blks.get b=some B
  cls:∀ c C,h.cls.get c=some C→h2.cls.get c=some C
theorem X5z.refl (h:Heap):X5z h h:=⟨fun _ _ e=>e,fun _ _ e=>e⟩
theorem X5z.trans {h h2 h3:Heap} (a:X5z h h2) (b:X5z h2 h3):X5z h h3:=⟨fun x B e=>b.blks x B (a.blks x B e),fun x C e=>b.cls x C (a.cls x C e)⟩
theorem X5z.rd {h h2:Heap} (a:X5z h h2) {b i:Nat} {v:Value} (e:h.rd b i=some v):h2.rd b i=some v:=by
  unfold Heap.rd at e ⊢
  split at e
  case h_1=>cases e
  rename_i B hB
  split at e
  case h_1=>cases e
  rename_i C hC
  rw [a.blks b B hB];simp only
  rw [a.cls _ C hC];exact e
theorem X5z.rdL {h h2:Heap} (a:X5z h h2) {b:Nat}:∀ (n i:Nat) {l:List Value},h.rdL b i n=some l→h2.rdL b i n=some l:=by
  intro n
  induction n with
  | zero=>intro i l e;exact e
  | succ n ih =>
    intro i l e
    simp only [Heap.rdL]at e ⊢
    split at e
    case h_1=>cases e
    rename_i v hv
    split at e
    case h_1=>cases e
    rename_i vs hvs
    rw [a.rd hv];simp only
    rw [ih _ hvs];exact e
theorem X5z.load {h h2:Heap} (a:X5z h h2) {t:TypeId} {p v:Value} (e:X44 P h t p=some v):X44 P h2 t p=some v:=by
  unfold X44 at e ⊢
  split at e
  case h_2=>cases e
  (try simp only at e ⊢)
  split at e
  · rename_i ha
    (try rw [ha]);(try simp only)
    split at e
    case h_2=>cases e
    rename_i n hn
    (try rw [hn]);(try simp only)
    split at e
    case h_2=>cases e
    rename_i l hl
    rw [a.rdL _ _ hl];exact e
  · rename_i ha
    (try rw [ha]);(try simp only);exact a.rd e
  · cases e
theorem X5z.slice {h h2:Heap} (a:X5z h h2) {t:TypeId} {x v:Value} {lo hi:Option Value} (e:X20 P h t x lo hi none=some v):X20 P h2 t x lo hi none=some v:=by
  unfold X20 at e ⊢
  simp only at e ⊢
  split at e<;>first | exact e | skip
  split at e<;>first | (cases e;done) | skip
  rename_i elem hu
  (try rw [hu]);(try simp only)
  split at e<;>first | (cases e;done) | skip
  rename_i ez l u B h1 h3 h4 h5
  rw [h1,h3,h4,a.blks _ B h5];simp only;exact e
theorem X7Y {h h2:Heap} {tm:Tr Value} {x:Option Operand} (e:∀ y,x=some y→X4B y=true):X4x h2 tm x=X4x h tm x:=by
  cases x with
  | none=>rfl
  | some y=>simp only [X4x,X3v (h:=h) (h2:=h2) (e y rfl)]
theorem X8d {call:X0D} {o:Oper} {tm:Tr Value} {h h' h2:Heap} {v:Value} (hf:XD4 o.op=true) (x:X5z h h2) (e:X05 P call o tm h=some (v,h')):X05 P call o tm h2=some (v,h2):=by
  obtain⟨dst,op,ty,pos,after,guard⟩:=o
  simp only [XD4,Bool.and_eq_true,List.all_eq_true]at hf
  obtain⟨hg,hop⟩:=hf
  have q:∀ x∈op.operands.toList,aev h2 tm x=aev h tm x:=fun x hx=>X3v (hg x hx)
  cases op<;>first | (cases hop;done) | skip
  case load t y =>
    simp only [X05,q y (by simp [Op.operands])]at e ⊢
    split at e
    · rename_i u hu
      (try simp only [hu])
      cases hl:X44 P h t u with
      | none=>rw [hl]at e;cases e
      | some r=>rw [hl]at e;cases e;rw [x.load hl];rfl
    · cases e
  case slice t y lo hi mx =>
    cases mx with
    | some m=>cases hop
    | none =>
      have ql:X4x h2 tm lo=X4x h tm lo:=X7Y fun z hz=>hg z (by subst hz;simp [Op.operands])
      have qh:X4x h2 tm hi=X4x h tm hi:=X7Y fun z hz=>hg z (by subst hz;simp [Op.operands])
      have qn:X4x h2 tm none=X4x h tm none:=rfl
      simp only [X05,q y (by simp [Op.operands]),ql,qh,qn]at e ⊢
      split at e
      · rename_i u l w m h1 h3 h4 h5
        (try simp only [h1,h3,h4,h5])
        have hm:m=none:=by cases h5;rfl
        subst hm
        cases hl:X20 P h t u l w none with
        | none=>rw [hl]at e;cases e
        | some r=>rw [hl]at e;cases e;rw [x.slice hl];rfl
      · cases e
theorem X8e {h h':Heap} {cells:Tr Value} {size esz b:Nat} (w:wfH h) (e:h.new cells size esz=some (b,h')):X5z h h':=by
  unfold Heap.new at e
  split at e
  case h_2=>cases e
  cases e
  exact⟨fun x B q=>by
    have:x≠h.next:=by rintro rfl;rw [(w _ (Nat.le_refl _)).1]at q;cases q
    exact(Tr.get_put_other this).trans q,fun x C q=>by
    have:x≠h.next:=by rintro rfl;rw [(w _ (Nat.le_refl _)).2]at q;cases q
    exact(Tr.get_put_other this).trans q⟩
theorem XD7 {call:X0D} {o:Oper} {tm:Tr Value} {h h':Heap} {v:Value} (hf:X4p o.op=true) (w:wfH h) (e:X05 P call o tm h=some (v,h')):X5z h h':=by
  obtain⟨dst,op,ty,pos,after,guard⟩:=o
  have pt:∀ {r:Option (Nat×Heap)},XCK r=some (v,h')→∃ b,r=some (b,h'):=by
    intro r e
    unfold XCK at e
    split at e
    · cases e;exact⟨_,rfl⟩
    · cases e
  have slc:∀ {n c:Nat} {r:Option (Nat×Heap)},X0n n c r=some (v,h')→∃ b,r=some (b,h'):=by
    intro n c r e
    unfold X0n at e
    split at e
    · cases e;exact⟨_,rfl⟩
    · cases e
  have bx:∀ u,XEf h u=some (v,h')→X5z h h':=by
    intro u e
    unfold XEf at e
    split at e
    case h_2=>cases e
    split at e
    case h_2=>cases e
    obtain⟨b,e⟩:=pt e
    exact X8e w e
  cases op<;>first | (cases hf;done) | skip
  case alloc t =>
    simp only [X05,X6T]at e
    split at e
    case h_2=>cases e
    exact bx _ e
  case box t y =>
    simp only [X05]at e
    split at e
    case h_2=>cases e
    exact bx _ e
  case buildSlice t n ps =>
    simp only [X05]at e
    split at e
    case h_2=>cases e
    unfold X1D at e
    split at e
    case h_2=>cases e
    split at e
    case h_2=>cases e
    split at e
    case h_2=>cases e
    split at e
    case h_2=>cases e
    obtain⟨b,e⟩:=slc e
    exact X8e w e
  case makeSlice t x y =>
    simp only [X05]at e
    split at e
    case h_2=>cases e
    unfold X1U at e
    split at e
    case h_2=>cases e
    split at e
    case h_2=>cases e
    split at e
    case h_2=>cases e
    split at e
    case h_2=>cases e
    obtain⟨b,e⟩:=slc e
    exact X8e w e
theorem XD8 {call:X0D} {nt:Nat} {ops:Array Oper} {W:AH→Prop}:∀ {l:List Oper} {st fin:St} {es:List Ent},X6m P call nt ops W l st→X1w P call nt ops l st=some (es,fin)→∀ (i:Nat) en,es[i]?=some en→∃ a,Ab en.st.h a∧W a:=by
  intro l
  induction l with
  | nil=>intro st fin es _ h i en e;simp only [X1w,Option.some.injEq,Prod.mk.injEq]at h;obtain⟨rfl,_⟩:=h;simp at e
  | cons o l ih =>
    intro st fin es w h i en e
    obtain⟨w1,w2⟩:=w
    simp only [X1w]at h
    cases hw:Region.wanted o (X0b ops st.tm)with
    | true =>
      rw [hw]at h
      simp only at h
      cases hs:X05 P call o st.tm st.h with
      | none=>rw [hs]at h;cases h
      | some r =>
        obtain⟨v,h'⟩:=r
        rw [hs]at h
        simp only at h
        cases hp:X1w P call nt ops l ⟨X3U nt st.tm o.dst v,h'⟩with
        | none=>rw [hp]at h;cases h
        | some r2 =>
          obtain⟨es',fin'⟩:=r2
          rw [hp]at h
          cases h
          cases i with
          | zero=>simp at e;subst e;exact w1
          | succ i=>exact ih (w2 _ (by simp only [X1d,hw,hs])) hp i en (by simpa using e)
    | false =>
      rw [hw]at h
      simp only at h
      cases hp:X1w P call nt ops l ⟨X3U nt st.tm o.dst undef,st.h⟩with
      | none=>rw [hp]at h;cases h
      | some r2 =>
        obtain⟨es',fin'⟩:=r2
        rw [hp]at h
        cases h
        cases i with
        | zero=>simp at e;subst e;exact w1
        | succ i=>exact ih (w2 _ (by simp only [X1d,hw])) hp i en (by simpa using e)
theorem X9Z {call:X0D} {nt:Nat} {ops:Array Oper} {W:AH→Prop} {l:List Oper} {st fin:St} {es:List Ent} (w:X6m P call nt ops W l st) (h:X1w P call nt ops l st=some (es,fin)):∀ (j:Nat) h2,(X0o es fin)[j]?=some h2→∃ a,Ab h2 a∧W a:=by
  have hfin:∀ (l:List Oper) (st fin:St) (es:List Ent),X6m P call nt ops W l st→X1w P call nt ops l st=some (es,fin)→∃ a,Ab fin.h a∧W a:=by
    intro l
    induction l with
    | nil=>intro st fin es w h;simp only [X1w,Option.some.injEq,Prod.mk.injEq]at h;obtain⟨_,rfl⟩:=h;exact w
    | cons o l ih =>
      intro st fin es w h
      obtain⟨w1,w2⟩:=w
      simp only [X1w]at h
      cases hw:Region.wanted o (X0b ops st.tm)with
      | true =>
        rw [hw]at h
        simp only at h
        cases hs:X05 P call o st.tm st.h with
        | none=>rw [hs]at h;cases h
        | some r =>
          obtain⟨v,h'⟩:=r
          rw [hs]at h
          simp only at h
          cases hp:X1w P call nt ops l ⟨X3U nt st.tm o.dst v,h'⟩with
          | none=>rw [hp]at h;cases h
          | some r2 =>
            obtain⟨es',fin'⟩:=r2
            rw [hp]at h
            cases h
            exact ih _ _ _ (w2 _ (by simp only [X1d,hw,hs])) hp
      | false =>
        rw [hw]at h
        simp only at h
        cases hp:X1w P call nt ops l ⟨X3U nt st.tm o.dst undef,st.h⟩with
        | none=>rw [hp]at h;cases h
        | some r2 =>
          obtain⟨es',fin'⟩:=r2
          rw [hp]at h
          cases h
          exact ih _ _ _ (w2 _ (by simp only [X1d,hw])) hp
  have key:∀ (es:List Ent) (fin:St) (j:Nat) h2,(X0o es fin)[j]?=some h2→h2=fin.h∨∃ (i:Nat) (en:Ent),es[i]?=some en∧h2=en.st.h:=by
    intro es
    induction es with
    | nil=>intro fin j h2 e;cases j with
      | zero=>simp [X0o]at e;exact .inl e.symm
      | succ j=>simp [X0o]at e
    | cons e es ih =>
      intro fin j h2 eq
      simp only [X0o]at eq
      have up:(h2=fin.h∨∃ (i:Nat) (en:Ent),es[i]?=some en∧h2=en.st.h)→(h2=fin.h∨∃ (i:Nat) (en:Ent),(e::es)[i]?=some en∧h2=en.st.h):=fun q=>by
        rcases q with q | ⟨i,en,q1,q2⟩
        · exact .inl q
        · exact .inr ⟨i+1,en,by simpa using q1,q2⟩
      split at eq
      · cases j with
        | zero=>simp at eq;exact .inr ⟨0,e,rfl,eq.symm⟩
        | succ j=>exact up (ih _ j _ (by simpa using eq))
      · exact up (ih _ j _ eq)
  intro j h2 e
  rcases key es fin j h2 e with rfl | ⟨i,en,e1,rfl⟩
  · exact hfin _ _ _ _ w h
  · exact XD8 w h i en e1
def Frz (P:Program) (ops:Array Oper) (W:AH→Prop) (fz:List Nat) (s:Env):Prop :=
  ∀ i∈fz,∀ t x,XF3 ops i=some (t,x)→s x=undef∨∃ v,∀ a',W a'→X3t P a' t (s x)=some v
theorem Frz.none {ops:Array Oper} {W:AH→Prop} {s:Env}:Frz P ops W [] s:=fun _ h=>by cases h
def ordAt (fz:List Nat) (ops:Array Oper) (i:Nat):Bool:=match ops[i]? with
  | none=>false
  | some o=>match X0F o.op with
    | false=>true
    | true=>X9X ops i || (XD3 o.op && (o.dst.isSome || isK o.op)) || (XD4 o.op && XBK ops i && o.dst.isSome) || (fz.any (Nat.beq i) && o.dst.isSome && (XF3 ops i).isSome)
def XD9 (ops:Array Oper) (i:Nat):Bool:=match ops[i]? with
  | none=>false
  | some o=>o.dst.isSome
def XEO (fz:List Nat) (ops:Array Oper):Bool:=allTo (ordAt fz ops) ops.size
theorem X6o {call:X0D} {nt:Nat} {ops:Array Oper} {st fin:St} {es:List Ent} (hp:X1w P call nt ops ops.toList st=some (es,fin)):∀ k,X0K es k=true→∃ p,ops[k]?=some p∧X0F p.op=false:=by
  have hlen:es.length=ops.size:=by rw [X1E _ _ _ _ hp];simp
  intro k hk
  have hkl:=X2M hk
  have hk2:k<ops.size:=by omega
  obtain⟨en,q1,q2,q3,q4,q5,q6⟩:=X2R _ _ _ _ hp k ops[k] (by simp [hk2])
  refine⟨ops[k],by simp [hk2],?_⟩
  unfold X0K at hk
  rw [q1]at hk
  simp only at hk
  rw [q4]at hk
  simp only [Bool.and_eq_true,Bool.not_eq_true']at hk
  exact hk.2
theorem XF4 {call:X0D} {o:Oper} {tm:Tr Value} {h h':Heap} {v:Value} (hk:isK o.op=true) (hs:X05 P call o tm h=some (v,h')):veq v v=true:=by
  unfold isK at hk
  split at hk
  · rename_i v0 e
    unfold X05 at hs
    rw [e]at hs
    simp only [X1p,aev]at hs
    cases hc:X01 v0 with
    | true=>rw [hc]at hs;cases hs;exact hk
    | false=>rw [hc]at hs;cases hs
  · cases hk
theorem X7Z {call : X0D} {nt : Nat} {ops : Array Oper} {st fin : St} {es : List Ent} (hs : X0r ops = true) (hb : X19 nt ops = true) (hnt : nt < 1000000) (hp : X1w P call nt ops ops.toList st = some (es, fin)) {i : Nat} (hi : i < ops.size) {en : Ent} (q1 : es[i]? = some en)
    {x:Nat} (o3:∀ (k:Nat) p,i≤k→ops[k]?=some p→p.dst≠some x):gd en.st.tm x=gd fin.tm x:=by
  have hlen:es.length=ops.size:=by rw [X1E _ _ _ _ hp];simp
  have e1:X5x es fin i=en.st:=by unfold X5x;rw [q1]
  have e2:X5x es fin ops.size=fin:=by unfold X5x;rw [List.getElem?_eq_none (by omega)]
  have e3:gd fin.tm x=gd (X5x es fin ops.size).tm x:=by rw [e2]
  rw [← e1,e3]
  by_cases hex:∃ (k:Nat) (p:Oper),ops[k]?=some p∧p.dst=some x
  · obtain⟨k,p,hk1,hk2⟩:=hex
    have hki:k<i:=by
      rcases Nat.lt_or_ge k i with h | h
      · exact h
      · exact absurd hk2 (o3 k p h hk1)
    obtain⟨ek,r1,_⟩:=X2R _ _ _ _ hp k p (by rw [← hk1];simp)
    have uni:∀ (k':Nat) (o':Oper),k<k'→ops.toList[k']?=some o'→o'.dst≠some x:=fun k' o' h1 ho' hd'=>by
      have ho2:ops[k']?=some o':=by simpa using ho'
      exact(X0L hs ho2).1 x hd' k p h1 hk1 hk2
    have hxn:x<nt:=X1W hb hk1 hk2
    rw [X3Y hnt x hxn _ _ _ _ hp i (by simp;omega) k p ek hki (by rw [← hk1];simp) hk2 r1 (fun k' o' h1 _=>uni k' o' h1),
      X3Y hnt x hxn _ _ _ _ hp ops.size (by simp) k p ek (by omega) (by rw [← hk1];simp) hk2 r1 (fun k' o' h1 _=>uni k' o' h1)]
  · rw [X1y x _ _ _ _ hp i (by simp;omega) (fun k p _ h hd=>hex ⟨k,p,by rw [← h];simp,hd⟩),X1y x _ _ _ _ hp ops.size (by simp) (fun k p _ h hd=>hex ⟨k,p,by rw [← h];simp,hd⟩)]
theorem XBL {call : X0D} {nt : Nat} {ops : Array Oper} {W : AH → Prop} {fz : List Nat} {st fin : St} {es : List Ent} (hs : X0r ops = true) (hb : X19 nt ops = true) (hnt : nt < 1000000) (sp : Nat → Bool) (ho : ∀ i, i < ops.size → (sp i = true ∧ XD9 ops i = true) ∨ ordAt fz ops i = true)
    (hp:X1w P call nt ops ops.toList st=some (es,fin)) (hwf:X6m P call nt ops W ops.toList st) (hfz:Frz P ops W fz (gd fin.tm)) (hsp:∀ (i:Nat) (hi:i<ops.size) en h2 h' (j:Nat),sp i=true→es[i]?=some en→(X0o es fin)[j]?=some h2→X05 P call ops[i] en.st.tm en.st.h=some (en.v,h')→X05 P call ops[i] en.st.tm h2=some (en.v,h2)) (hl:∀ d∈X4C ops,veq (gd fin.tm d) (gd fin.tm d)=true):X2w P call ops es fin=true:=by
  have hlen:es.length=ops.size:=by rw [X1E _ _ _ _ hp];simp
  have hmut:=X6o hp
  unfold X2w
  cases hany:es.any (·.mut_)with
  | false=>rfl
  | true =>
    simp only
    refine X1c fun i hi=>?_
    obtain⟨en,q1,q2,q3,q4,q5,q6⟩:=X2R _ _ _ _ hp i ops[i] (by simp [hi])
    have hoi:ops[i]?=some ops[i]:=by simp [hi]
    have hord:=ho i hi
    unfold ordAt XD9 at hord
    rw [q1,hoi]
    rw [hoi]at hord
    simp only at hord ⊢
    cases hm:en.mut_ with
    | true=>rfl
    | false =>
      simp only
      cases hw:en.want with
      | false=>rfl
      | true =>
        simp only
        rw [hm,hw]at q4
        have hr:X0F ops[i].op=true:=by
          have:=q4.symm;simpa using this
        rw [hr]at hord
        simp only at hord
        refine X1c fun j hj=>?_
        obtain⟨h',p1,p2⟩:=q6 hw
        cases hpin:X9X ops i with
        | false =>
          rw [hpin]at hord
          simp only [Bool.false_or,Bool.or_eq_true,Bool.and_eq_true]at hord
          have hsome:ops[i].dst.isSome=true∨isK ops[i].op=true:=by
            rcases hord with h | (h | h) | h
            · exact .inl h.2
            · exact h.2
            · exact .inl h.2
            · exact .inl h.1.2
          have hv:veq en.v en.v=true:=by
            rcases hsome with hsome | hk
            rotate_left
            · exact XF4 hk p1
            have hdst:∃ d,ops[i].dst=some d:=by
              cases hd:ops[i].dst with
              | none=>rw [hd]at hsome;cases hsome
              | some d=>exact⟨d,rfl⟩
            obtain⟨d,hd⟩:=hdst
            have hin:d∈X4C ops:=by
              unfold X4C
              rw [List.mem_filterMap]
              refine⟨i,by simpa using hi,?_⟩
              rw [hoi]
              simp only [hr,hpin,Bool.not_false,Bool.and_self]
              exact hd
            have hval:gd fin.tm d=en.v:=by
              have:=X3Y hnt d (X1W hb hoi hd) ops.toList st es fin hp ops.size (by simp) i ops[i] en hi (by simp [hi]) hd q1 (fun k' o' h1 h2 ho' hd'=>by
                have ho2:ops[k']?=some o':=by simpa using ho'
                exact(X0L hs ho2).1 d hd' i ops[i] h1 hoi hd)
              have h2:X5x es fin ops.size=fin:=by
                unfold X5x
                rw [List.getElem?_eq_none (by omega)]
              rw [h2]at this
              exact this
            rw [← hval];exact hl d hin
          cases hh:(X0o es fin)[j]? with
          | none=>simp
          | some h2 =>
            rcases hord with hord | (hord | hord) | hord
            · simp only [hsp i hi en h2 _ j hord.1 q1 hh p1,hv,Bool.or_true]
            · simp only [X8b hord.1 h2 p1,hv,Bool.or_true]
            rotate_left
            · obtain⟨⟨hmem,_⟩,hsx⟩:=hord
              have hmem:i∈fz:=by
                obtain⟨y,y1,y2⟩:=List.any_eq_true.1 hmem
                have:i=y:=by simpa using y2
                rw [this];exact y1
              cases hfx:XF3 ops i with
              | none=>rw [hfx]at hsx;cases hsx
              | some tx =>
              obtain⟨t,x⟩:=tx
              obtain⟨o,o1,o2,o3⟩:=XD5 hfx
              rw [hoi]at o1;cases o1
              have hx:gd en.st.tm x=gd fin.tm x:=X7Z hs hb hnt hp hi q1 o3
              have key:∀ (h:Heap) r,X44 P h t (gd en.st.tm x)=r→X05 P call ops[i] en.st.tm h=match r with | some v=>some (v,h) | none=>none:=by
                intro h v e
                generalize ops[i]=o at o2
                obtain⟨dst,op,ty,pos,after,guard⟩:=o
                have o2:op=.load t (.tmp x):=o2
                subst o2
                simp only [X05,aev]
                show(match X44 P h t (gd en.st.tm x)with | some r=>some (r,h) | none=>none)=_
                rw [e]
              rcases hfz i hmem t x hfx with hu | ⟨v,hv2⟩
              · rw [key _ none (by rw [hx,hu];rfl)]at p1;cases p1
              obtain⟨a1,A1,W1⟩:=XD8 hwf hp i en q1
              obtain⟨a2,A2,W2⟩:=X9Z hwf hp j h2 hh
              have l1:=X4o A1 (hv2 a1 W1)
              have l2:=X4o A2 (hv2 a2 W2)
              rw [← hx]at l1 l2
              rw [key _ _ l1]at p1
              cases p1
              simp only [key _ _ l2,hv,Bool.or_true]
            · obtain⟨⟨hlook,hpl⟩,_⟩:=hord
              by_cases hjc:j=cnt es i
              · have:Nat.beq j (cnt es i)=true:=by rw [hjc];exact Nat.beq_refl _
                rw [this];rfl
              · cases hall:allTo (fun k=>!X0K es k || ((!((X0R ops).getD i 0).testBit k || Nat.blt (cnt es k) j) && (!((X0R ops).getD k 0).testBit i || Nat.ble j (cnt es k)))) ops.size with
                | false=>simp
                | true =>
                  have XCh:∀ k,X0K es k=true→(((X0R ops).getD i 0).testBit k=true→cnt es k<j)∧(((X0R ops).getD k 0).testBit i=true→j≤cnt es k):=by
                    intro k hk
                    have hkl:=X2M hk
                    have:=X09 hall k (by omega)
                    rw [hk]at this
                    simp only [Bool.not_true,Bool.false_or,Bool.and_eq_true,Bool.or_eq_true,Bool.not_eq_true',Nat.blt_eq,Nat.ble_eq]at this
                    refine⟨fun h=>?_,fun h=>?_⟩
                    · rcases this.1 with h1 | h1
                      · rw [h]at h1;cases h1
                      · exact h1
                    · rcases this.2 with h1 | h1
                      · rw [h]at h1;cases h1
                      · exact h1
                  have hpk:∀ k,X0K es k=true→pinned ops i k=true∨∃ p,ops[k]?=some p∧X4p p.op=true∧i<k:=by
                    intro k hk
                    obtain⟨p,hp1,hp2⟩:=hmut k hk
                    have hkl:=X2M hk
                    have:=X09 hpl k (by omega)
                    rw [hp1]at this
                    simp only [hp2,Bool.false_or,Bool.or_eq_true,Bool.and_eq_true,Nat.blt_eq]at this
                    rcases this with h | h
                    · exact .inl h
                    · exact .inr ⟨p,hp1,h.1,h.2⟩
                  have hni:∀ k,X0K es k=true→k≠i:=by
                    rintro k hk rfl
                    unfold X0K at hk
                    rw [q1]at hk
                    simp only at hk
                    rw [hm]at hk;cases hk
                  have hil:i≤es.length:=by omega
                  have hjl:j<(X0o es fin).length:=(List.getElem?_eq_some_iff.1 hh).1
                  obtain⟨hlast,_⟩:=X29 es fin
                  rcases Nat.lt_or_gt_of_ne hjc with hlt | hgt
                  · exfalso
                    obtain⟨k,k1,k2,k3⟩:=X9Y es i hil j hlt
                    rcases hpk k k2 with hpp | ⟨_,_,_,h⟩
                    · unfold pinned at hpp
                      simp only [Bool.or_eq_true]at hpp
                      rcases hpp with h | h
                      · have:=(XCh k k2).1 h;omega
                      · have:=X6n hs h;omega
                    · omega
                  · -- only new things are laid between
                    have step:∀ m,cnt es i≤m→m≤j→∃ hm2,(X0o es fin)[m]?=some hm2∧X5z en.st.h hm2:=by
                      intro m
                      induction m with
                      | zero => intro h1 h2; have : cnt es i = 0 := by omega
                                exact⟨en.st.h,by rw [← this];exact q2,X5z.refl _⟩
                      | succ m ih =>
                        intro h1 h2
                        by_cases he:cnt es i=m+1
                        · exact⟨en.st.h,by rw [← he];exact q2,X5z.refl _⟩
                        · obtain⟨hm2,e1,e2⟩:=ih (by omega) (by omega)
                          obtain⟨k,k1,k2,k3⟩:=X9Y es es.length (Nat.le_refl _) m (by omega)
                          have hki:i<k:=by
                            rcases Nat.lt_or_ge k i with h | h
                            · have:=XA9 k2 h hil;omega
                            · have:=hni k k2;omega
                          have hlay:∃ p,ops[k]?=some p∧X4p p.op=true:=by
                            rcases hpk k k2 with hpp | ⟨p,h3,h4,_⟩
                            · exfalso
                              unfold pinned at hpp
                              simp only [Bool.or_eq_true]at hpp
                              rcases hpp with h | h
                              · have:=X6n hs h;omega
                              · have:=(XCh k k2).2 h;omega
                            · exact⟨p,h3,h4⟩
                          obtain⟨p,hp1,hp2⟩:=hlay
                          obtain⟨enk,r1,r2,r3,r4,r5,r6⟩:=X2R _ _ _ _ hp k p (by rw [← hp1];simp)
                          have hmk:enk.mut_=true:=by
                            unfold X0K at k2
                            rw [r1]at k2;exact k2
                          have hwk:enk.want=true:=by
                            rw [hmk]at r4
                            have:=r4.symm;simp only [Bool.and_eq_true]at this;exact this.1
                          obtain⟨hk',s1,s2⟩:=r6 hwk
                          rw [hmk]at s2
                          rw [k3]at r2 s2
                          rw [e1]at r2;cases r2
                          exact⟨hk',s2,e2.trans (XD7 hp2 (XD8 hwf hp k enk r1).choose_spec.1.wf s1)⟩
                    obtain⟨hm2,e1,e2⟩:=step j (by omega) (Nat.le_refl _)
                    rw [hh]at e1;cases e1
                    simp only [X8d hlook e2 p1,hv,Bool.or_true]
        | true =>
          by_cases hjc:j=cnt es i
          · have:Nat.beq j (cnt es i)=true:=by rw [hjc];exact Nat.beq_refl _
            rw [this];rfl
          · have hpk : ∀ k, X0K es k = true → pinned ops i k = true := by
              intro k hk
              obtain⟨p,hp1,hp2⟩:=hmut k hk
              have hkl:=X2M hk
              have:=X09 hpin k (by omega)
              rw [hp1]at this
              simpa only [hp2,Bool.false_or]using this
            have hni:∀ k,X0K es k=true→k≠i:=by
              rintro k hk rfl
              unfold X0K at hk
              rw [q1]at hk
              simp only at hk
              rw [hm]at hk;cases hk
            obtain⟨hlast,_⟩:=X29 es fin
            have hno:allTo (fun k=>!X0K es k || ((!((X0R ops).getD i 0).testBit k || Nat.blt (cnt es k) j) && (!((X0R ops).getD k 0).testBit i || Nat.ble j (cnt es k)))) ops.size=false:=by
              cases hall:allTo (fun k=>!X0K es k || ((!((X0R ops).getD i 0).testBit k || Nat.blt (cnt es k) j) && (!((X0R ops).getD k 0).testBit i || Nat.ble j (cnt es k)))) ops.size with
              | false=>rfl
              | true =>
                exfalso
                have XCh:∀ k,X0K es k=true→(((X0R ops).getD i 0).testBit k=true→cnt es k<j)∧(((X0R ops).getD k 0).testBit i=true→j≤cnt es k):=by
                  intro k hk
                  have hkl:=X2M hk
                  have:=X09 hall k (by omega)
                  rw [hk]at this
                  simp only [Bool.not_true,Bool.false_or,Bool.and_eq_true,Bool.or_eq_true,Bool.not_eq_true',Nat.blt_eq,Nat.ble_eq]at this
                  refine⟨fun h=>?_,fun h=>?_⟩
                  · rcases this.1 with h1 | h1
                    · rw [h]at h1;cases h1
                    · exact h1
                  · rcases this.2 with h1 | h1
                    · rw [h]at h1;cases h1
                    · exact h1
                have hil:i≤es.length:=by omega
                rcases Nat.lt_or_gt_of_ne hjc with hlt | hgt
                · obtain⟨k,k1,k2,k3⟩:=X9Y es i hil j hlt
                  have hpp:=hpk k k2
                  unfold pinned at hpp
                  simp only [Bool.or_eq_true]at hpp
                  rcases hpp with h | h
                  · have:=(XCh k k2).1 h;omega
                  · have:=X6n hs h;omega
                · obtain⟨k,k1,k2,k3⟩:=X9Y es es.length (Nat.le_refl _) (cnt es i) (by omega)
                  have hki:i<k:=by
                    rcases Nat.lt_or_ge k i with h | h
                    · have:=XA9 k2 h hil;omega
                    · have:=hni k k2;omega
                  have hpp:=hpk k k2
                  unfold pinned at hpp
                  simp only [Bool.or_eq_true]at hpp
                  rcases hpp with h | h
                  · have:=X6n hs h;omega
                  · have:=(XCh k k2).2 h;omega
            rw [hno];simp
theorem XF5 {call : X0D} {nt : Nat} {ops : Array Oper} {W : AH → Prop} {fz : List Nat} {st fin : St} {es : List Ent} (hs : X0r ops = true) (hb : X19 nt ops = true) (hnt : nt < 1000000) (ho : XEO fz ops = true)
    (hp:X1w P call nt ops ops.toList st=some (es,fin)) (hwf:X6m P call nt ops W ops.toList st) (hfz:Frz P ops W fz (gd fin.tm)) (hl:∀ d∈X4C ops,veq (gd fin.tm d) (gd fin.tm d)=true):X2w P call ops es fin=true :=
  XBL hs hb hnt (fun _=>false) (fun i hi=>.inr (X09 ho i hi)) hp hwf hfz (fun i hi en h2 h' j h=>by cases h) hl
theorem XF6 {fz:List Nat} {ops:Array Oper} (h:XD6 fz ops=true):XEO fz ops=true:=by
  refine X1c fun i hi=>?_
  have h1:=X09 h i hi
  unfold ordAt
  split at h1
  · cases h1
  · rename_i o ho
    rw [ho]
    simp only
    cases hr:X0F o.op with
    | false=>rfl
    | true=>rw [hr]at h1;exact h1
theorem XEP {call : X0D} {nt : Nat} {ops : Array Oper} {W : AH → Prop} {fz : List Nat} {st fin : St} {es : List Ent} (hs : X0r ops = true) (hb : X19 nt ops = true) (hnt : nt < 1000000) (ho : XD6 fz ops = true)
    (hp:X1w P call nt ops ops.toList st=some (es,fin)) (hwf:X6m P call nt ops W ops.toList st) (hfz:Frz P ops W fz (gd fin.tm)) (hl:∀ d∈X4C ops,veq (gd fin.tm d) (gd fin.tm d)=true):X3c P call ops es fin=true:=by
  have hmut:=X6o hp
  have hR:=XF5 hs hb hnt (XF6 ho) hp hwf hfz hl
  unfold X3c
  unfold X2w at hR
  cases hany:es.any (·.mut_)with
  | false=>rfl
  | true =>
    rw [hany]at hR
    simp only at hR ⊢
    refine X1c fun i hi=>?_
    have h1:=X09 hR i hi
    have hord:=X09 ho i hi
    obtain⟨en,q1,q2,q3,q4,q5,q6⟩:=X2R _ _ _ _ hp i ops[i] (by simp [hi])
    have hoi:ops[i]?=some ops[i]:=by simp [hi]
    rw [q1,hoi]at h1 ⊢
    rw [hoi]at hord
    simp only at h1 hord ⊢
    cases hm:en.mut_ with
    | true =>
      rw [hm]at q4
      have hr:X0F ops[i].op=false:=by
        have:=q4.symm;simp only [Bool.and_eq_true,Bool.not_eq_true']at this;exact this.2
      rw [hr]at hord
      simp only at hord ⊢
      refine X1c fun k hk=>?_
      cases hmk:X0K es k with
      | false=>rfl
      | true =>
        obtain⟨p,hp1,hp2⟩:=hmut k hmk
        have:=X09 hord k hk
        rw [hp1]at this
        simp only [hp2,Bool.false_or]at this
        rw [this];rfl
    | false=>rw [hm]at h1;exact h1
def X9a (fz:List Nat) (nt:Nat) (ops:Array Oper):Bool:=X0r ops && X19 nt ops && Nat.blt nt 1000000 && XD6 fz ops
theorem Cx.drawn {nt:Nat} {s:Env} {a:AH} {Q:XAO} {id:Nat} {ops:Array Oper} {W:AH→Prop} {fz:List Nat} (ht:X9a fz nt ops=true) (h:X31 P ov nt ops W ops.toList s a fun s' a'=>(∀ d∈X4C ops,veq (s' d) (s' d)=true)∧Frz P ops W fz s'∧Q.n s' a'):Cx P ov nt (.region id ops true) s a Q:=by
  simp only [X9a,Bool.and_eq_true]at ht
  obtain⟨⟨⟨hs,hb⟩,hn⟩,ho⟩:=ht
  have hn:nt<1000000:=by simpa using hn
  intro tm hp hgd A
  obtain⟨st,a',⟨K,e⟩,A',q⟩:=h tm hp hgd A
  refine⟨.normal,st,a',⟨K+1,fun k hk=>?_⟩,A',q.2.2⟩
  cases k with
  | zero=>omega
  | succ k =>
    show X0B P ov (X0O P) (exec P ov (X0O P) k) false nt (.region id ops true) ⟨tm,hp⟩=_
    have hd:X0O P (X2i P ov k) nt ops ⟨tm,hp⟩=some st:=by
      obtain⟨es,he⟩:=X8c _ _ _ (e k (by omega)).1
      have hdyn:=XEP hs hb hn ho he (e k (by omega)).2 q.2.1 q.1
      simp only [X0O,X9E,hs,hb,Bool.and_self,X2L,he,hdyn]
    simp only [X0B,hd]
end
end Go.Vai
namespace Go.Vai
noncomputable section
variable {P:Program} {ov:Ov}
theorem X7a (nt:Nat) (s:Env) (d:Nat) (v:Value) (t:Nat):XEz nt s (some d) v t=if t=d∧d<nt then v else s t:=rfl
theorem XDA (k:IntKind):kEq k k=true:=by cases k<;>rfl
theorem X2j {op:BinOp} {k:IntKind} {a b:Int} (h1:op≠.shl) (h2:op≠.shr):XA3 op (.int k a) (.int k b)=XGK op k a b:=by
  unfold XA3
  simp only [XDA]
  all_goals cases op<;>first | rfl | exact absurd rfl h1 | exact absurd rfl h2
section
variable (t:TypeId) (ox oy:Operand) (k:IntKind) (a b:Int)
theorem XF7:X2b P .add t ox oy (.int k a) (.int k b)=some (.int k (X0X k (a+b))):=by
  unfold X2b;rw [X2j (by simp) (by simp)];rfl
theorem XF8:X2b P .sub t ox oy (.int k a) (.int k b)=some (.int k (X0X k (a - b))):=by
  unfold X2b;rw [X2j (by simp) (by simp)];rfl
theorem XF9:X2b P .mul t ox oy (.int k a) (.int k b)=some (.int k (X0X k (a*b))):=by
  unfold X2b;rw [X2j (by simp) (by simp)];rfl
theorem XFA:X2b P .eql t ox oy (.int k a) (.int k b)=some (.bool (decide (a=b))):=by
  unfold X2b;rw [X2j (by simp) (by simp)];show some (Value.bool (eqI a b))=_;rw [XA2];rfl
theorem XFB:X2b P .neq t ox oy (.int k a) (.int k b)=some (.bool (!decide (a=b))):=by
  unfold X2b;rw [X2j (by simp) (by simp)];show some (Value.bool (!eqI a b))=_;rw [XA2];rfl
theorem XFC:X2b P .lss t ox oy (.int k a) (.int k b)=some (.bool (decide (a<b))):=by
  unfold X2b;rw [X2j (by simp) (by simp)];show some (Value.bool (ltI a b))=_;rw [X7u]
theorem XFD:X2b P .gtr t ox oy (.int k a) (.int k b)=some (.bool (decide (b<a))):=by
  unfold X2b;rw [X2j (by simp) (by simp)];show some (Value.bool (ltI b a))=_;rw [X7u]
theorem XFE:X2b P .leq t ox oy (.int k a) (.int k b)=some (.bool (decide (a≤b))):=by
  unfold X2b;rw [X2j (by simp) (by simp)];show some (Value.bool (!ltI b a))=_;rw [X7u]
  by_cases h:b<a
  · rw [decide_eq_true h,decide_eq_false (by omega)];rfl
  · rw [decide_eq_false h,decide_eq_true (by omega)];rfl
theorem XFF:X2b P .geq t ox oy (.int k a) (.int k b)=some (.bool (decide (b≤a))):=by
  unfold X2b;rw [X2j (by simp) (by simp)];show some (Value.bool (!ltI a b))=_;rw [X7u]
  by_cases h:a<b
  · rw [decide_eq_true h,decide_eq_false (by omega)];rfl
  · rw [decide_eq_false h,decide_eq_true (by omega)];rfl
end
theorem wrap64 {n:Int} (h0 : -9223372036854775808≤n) (h1:n<9223372036854775808):X0X .i64 n=n:=by
  rw [X1v];exact X5a (fun h=>by cases h) h0 h1
theorem wrap32 {n:Int} (h0 : -2147483648≤n) (h1:n<2147483648):X0X .i32 n=n:=by
  rw [X1v];exact X5a (fun h=>by cases h) h0 h1
theorem wrap8 {n:Int} (h0:0≤n) (h1:n<256):X0X .u8 n=n:=by
  rw [X1v];exact X5a (fun _=>h0) (by show -(256:Int)≤n;omega) h1
theorem XGY (b:Bool):X1B P (Op.unary .not (.bool b))=some (.bool (!b)):=by cases b<;>rfl
section
variable (a:AH)
theorem XFG (l:List Value) (e x:Nat):(a.new l e).blk x=if x=a.next then some ⟨l,a.next,true,e⟩else a.blk x:=rfl
theorem X4q (l:List Value) (e:Nat):(a.new l e).blk a.next=some ⟨l,a.next,true,e⟩:=if_pos rfl
theorem XFH {l:List Value} {e x:Nat} (h:x≠a.next):(a.new l e).blk x=a.blk x:=if_neg h
end
theorem XFI {a:AH} {b:Nat} {B:AB} (h:a.blk b=some B) (i:Nat):a.rd b i=B.l[i]?:=by unfold AH.rd;rw [h]
theorem X6E {a:AH} {b:Nat} {B:AB} (h:a.blk b=some B) {i n:Nat} (hn:i+n≤B.l.length):a.rdL b i n=some ((B.l.drop i).take n):=by unfold AH.rdL;rw [h];simp only [if_pos hn]
theorem X31.guard {nt : Nat} {ops : Array Oper} {W : AH → Prop} {dst : Option Nat} {op : Op} {ty : TypeId} {pos : String} {after : Array Edge} {j d : Nat} {w b : Bool} {l : List Oper} {s : Env} {a : AH} {Q : Env → AH → Prop}
    (hw:W a) (hd:X8a ops j=some d) (hb:s d=.bool b) (h1:b=w→X31 P ov nt ops W (⟨dst,op,ty,pos,after,none⟩::l) s a Q) (h2:b = !w→X31 P ov nt ops W l (XEz nt s dst undef) a Q):X31 P ov nt ops W (⟨dst,op,ty,pos,after,some (j,w)⟩::l) s a Q:=by
  by_cases h:b=w
  · intro tm hp hs A
    obtain⟨st,a',⟨K,e⟩,A',q⟩:=h1 h tm hp hs A
    refine⟨st,a',⟨K,fun k hk=>?_⟩,A',q⟩
    have e:=e k hk
    have hw:=X1f (o:=⟨dst,op,ty,pos,after,some (j,w)⟩) rfl hd hb tm hs
    have eq:X1d P (X2i P ov k) nt ops ⟨dst,op,ty,pos,after,some (j,w)⟩ ⟨tm,hp⟩=X1d P (X2i P ov k) nt ops ⟨dst,op,ty,pos,after,none⟩ ⟨tm,hp⟩:=by
      simp only [X1d,hw,h,beq_self_eq_true,X59 (o:=⟨dst,op,ty,pos,after,none⟩) rfl]
      rfl
    refine⟨?_,e.2.1,fun st' e'=>e.2.2 st' (by rw [← eq];exact e')⟩
    have e1:=e.1
    simp only [X11]at e1 ⊢
    rw [eq];exact e1
  · refine X31.skip hw (fun tm hs=>?_) (h2 (by cases b<;>cases w<;>first | rfl | exact absurd rfl h))
    rw [X1f (o:=⟨dst,op,ty,pos,after,some (j,w)⟩) rfl hd hb tm hs]
    cases b<;>cases w<;>first | rfl | exact absurd rfl h
end
end Go.Vai
namespace Go.Vai
noncomputable section
variable {P:Program} {ov:Ov}
theorem X7b {f g:Nat→Bool} {n:Nat} (h:allTo f n=true) (x:∀ i,i<n→f i=true→g i=true):allTo g n=true:=X1c fun i hi=>x i hi (X09 h i hi)
end
end Go.Vai

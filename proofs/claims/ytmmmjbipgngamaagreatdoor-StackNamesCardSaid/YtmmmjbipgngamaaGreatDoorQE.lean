/-
  What is proved here: a region that leaves its order open comes to what the text's order comes to, if by its text what tur what single operations give, as equations for proofs with variables (part QF). No conditions but those that the theorems state.
-/
import Derived.Test.YtmmmjbipgngamaaGreatDoorQC
set_option linter.unusedVariables false
set_option linter.unusedSimpArgs false
namespace Go.Vai
noncomputable section
variable {P:Program} {ov:Ov}
theorem X0Q {h h2 h':X04} {o:Option Value} {v:Value} (e:X1d h o=some (v,h')):X1d h2 o=some (v,h2):=by
  cases o with
  | none=>cases e
  | some u=>cases e;rfl
theorem X76 {call:X0E} {o:Oper} {tm:Tr Value} {h h':X04} {v:Value} (hf:XAW o.op=true) (h2:X04) (e:X05 P call o tm h=some (v,h')):X05 P call o tm h2=some (v,h2):=by
  obtain⟨dst,op,ty,pos,after,guard⟩:=o
  simp only [XAW,Bool.and_eq_true,List.all_eq_true]at hf
  obtain⟨hg,hop⟩:=hf
  have q:∀ x∈op.operands.toList,aev h2 tm x=aev h tm x:=fun x hx=>X37 (hg x hx)
  cases op<;>first | (cases hop;done) | skip
  case move x=>simp only [X05,q x (by simp [Op.operands])]at e ⊢;exact X0Q e
  case assign x=>simp only [X05,q x (by simp [Op.operands])]at e ⊢;exact X0Q e
  case pick c x y =>
    simp only [X05,q c (by simp [Op.operands]),q x (by simp [Op.operands]),q y (by simp [Op.operands])]at e ⊢
    split at e
    · rename_i hc;exact X0Q e
    · rename_i hc;exact X0Q e
    · cases e
  case build t parts =>
    have hp:X5N h2 tm parts.toList=X5N h tm parts.toList:=X9D fun x hx=>hg x.2 (by simp [Op.operands];exact⟨x.1,by simpa using hx⟩)
    simp only [X05,hp]at e ⊢
    split at e
    · rename_i ps hps;(try simp only [hps]);exact X0Q e
    · cases e
  case nilCheck x =>
    simp only [X05,q x (by simp [Op.operands])]at e ⊢
    split at e
    · rename_i hc;cases e;(try simp only [hc])
    · rename_i hc;cases e;(try simp only [hc])
    · cases e
  case binOp op t x y t2 =>
    simp only [X05,q x (by simp [Op.operands]),q y (by simp [Op.operands])]at e ⊢
    split at e
    · rename_i h1 h3;(try simp only [h1,h3]);exact X0Q e
    · cases e
  case unOp op t x =>
    simp only [X05,q x (by simp [Op.operands])]at e ⊢
    split at e
    · rename_i h1
      (try simp only [h1])
      split at e
      · rename_i hp;(try simp only [hp]);exact X0Q e
      · cases e
    · cases e
  case makeInterface t x =>
    simp only [X05,q x (by simp [Op.operands])]at e ⊢
    split at e
    · rename_i h1
      (try simp only [h1])
      split at e
      · rename_i hp;(try simp only [hp]);exact X0Q e
      · cases e
    · cases e
  case makeFunc fn fi ca =>
    have e1:X34 h2 tm fi.toList=X34 h tm fi.toList:=X4D fun x hx=>hg x (by simp [Op.operands];exact .inl (by simpa using hx))
    have e2:X34 h2 tm ca.toList=X34 h tm ca.toList:=X4D fun x hx=>hg x (by simp [Op.operands];exact .inr (by simpa using hx))
    simp only [X05,e1,e2]at e ⊢
    split at e
    · rename_i h1 h3
      (try simp only [h1,h3])
      split at e
      · rename_i hp;cases e;(try simp only [hp])
      · cases e
    · cases e
  case fieldAddr t x f =>
    simp only [X05,q x (by simp [Op.operands])]at e ⊢
    split at e
    · rename_i h1;(try simp only [h1]);exact X0Q e
    · cases e
  case field t x f =>
    simp only [X05,q x (by simp [Op.operands])]at e ⊢
    split at e
    · rename_i h1;(try simp only [h1]);exact X0Q e
    · cases e
  case indexAddr t x i =>
    simp only [X05,q x (by simp [Op.operands]),q i (by simp [Op.operands])]at e ⊢
    split at e
    · rename_i h1 h3;(try simp only [h1,h3]);exact X0Q e
    · cases e
  case index t x i =>
    simp only [X05,q x (by simp [Op.operands]),q i (by simp [Op.operands])]at e ⊢
    split at e
    · rename_i h1 h3;(try simp only [h1,h3]);exact X0Q e
    · cases e
  case extract x i =>
    simp only [X05,q x (by simp [Op.operands])]at e ⊢
    split at e
    · rename_i h1;(try simp only [h1]);exact X0Q e
    · cases e
  case call c =>
    obtain⟨callee,args,ats⟩:=c
    have hl:X34 h2 tm args.toList=X34 h tm args.toList:=X4D fun x hx=>hg x (by simp [Op.operands,Call.operands];exact .inr (by simpa using hx))
    cases callee with
    | value f=>cases hop
    | invoke r m=>cases hop
    | builtin b =>
      cases b<;>first | (cases hop;done) | skip
      all_goals
        simp only [X05,hl]at e ⊢
        split at e
        · rename_i h1
          (try simp only [h1])
          first
            | exact X0Q e
            | (split at e
               · rename_i hp;(try simp only [hp]);exact X0Q e
               · cases e)
        · cases e
theorem XC9 {call:X0E} {nt:Nat} {ops:Array Oper}:∀ (l:List Oper) (st fin:St),X1P P call nt ops l st=some fin→∃ es,X25 P call nt ops l st=some (es,fin):=by
  intro l
  induction l with
  | nil=>intro st fin e;simp only [X1P,Option.some.injEq]at e;subst e;exact⟨[],rfl⟩
  | cons o l ih =>
    intro st fin e
    simp only [X1P,X1e]at e
    cases hw:Region.wanted o (X0W ops st.tm)with
    | true =>
      rw [hw]at e
      simp only at e
      cases hs:X05 P call o st.tm st.h with
      | none=>rw [hs]at e;cases e
      | some r =>
        obtain⟨v,h'⟩:=r
        rw [hs]at e
        simp only at e
        obtain⟨es,he⟩:=ih _ _ e
        exact⟨_,by simp only [X25,hw,hs,he];rfl⟩
    | false =>
      rw [hw]at e
      simp only at e
      obtain⟨es,he⟩:=ih _ _ e
      exact⟨_,by simp only [X25,hw,he];rfl⟩
theorem X7l (es:List Ent):∀ (n:Nat),n≤es.length→∀ c,c<cnt es n→∃ k,k<n∧X0H es k=true∧cnt es k=c:=by
  intro n
  induction n with
  | zero=>intro _ c hc;simp [cnt]at hc
  | succ n ih =>
    intro hn c hc
    have h1:=X44 es n (by omega)
    by_cases h:c<cnt es n
    · obtain⟨k,q1,q2,q3⟩:=ih (by omega) c h
      exact⟨k,by omega,q2,q3⟩
    · cases hm:X0H es n with
      | true=>rw [hm]at h1;simp only at h1;exact⟨n,by omega,hm,by omega⟩
      | false=>rw [hm]at h1;simp only at h1;omega
theorem X5c {ops:Array Oper} (hs:X1U ops=true) {i k:Nat} (h:((X0Z ops).getD i 0).testBit k=true):k≤i:=by
  refine X0d (ops:=ops) (S:=fun j=>j≤i) ?_ (i:=i) (Nat.le_refl i) h
  intro j o ho hj e he hb
  have:=(X0D hs ho).2.1 e he hb
  show e.on≤i
  have hj':j≤i:=hj
  omega
structure X4x (h h2:X04):Prop where
  blks:∀ b B,h.blks.get b=some B→h2.blks.get b=some B
  cls:∀ c C,h.cls.get c=some C→h2.cls.get c=some C
theorem X4x.refl (h:X04):X4x h h:=⟨fun _ _ e=>e,fun _ _ e=>e⟩
theorem X4x.trans {h h2 h3:X04} (a:X4x h h2) (b:X4x h2 h3):X4x h h3:=⟨fun x B e=>b.blks x B (a.blks x B e),fun x C e=>b.cls x C (a.cls x C e)⟩
theorem X4x.rd {h h2:X04} (a:X4x h h2) {b i:Nat} {v:Value} (e:h.rd b i=some v):h2.rd b i=some v:=by
  unfold X04.rd at e ⊢
  split at e
  case h_1=>cases e
  rename_i B hB
  split at e
  case h_1=>cases e
  rename_i C hC
  rw [a.blks b B hB];simp only
  rw [a.cls _ C hC];exact e
theorem X4x.rdL {h h2:X04} (a:X4x h h2) {b:Nat}:∀ (n i:Nat) {l:List Value},h.rdL b i n=some l→h2.rdL b i n=some l:=by
  intro n
  induction n with
  | zero=>intro i l e;exact e
  | succ n ih =>
    intro i l e
    simp only [X04.rdL]at e ⊢
    split at e
    case h_1=>cases e
    rename_i v hv
    split at e
    case h_1=>cases e
    rename_i vs hvs
    rw [a.rd hv];simp only
    rw [ih _ hvs];exact e
theorem X4x.load {h h2:X04} (a:X4x h h2) {t:TypeId} {p v:Value} (e:X3G P h t p=some v):X3G P h2 t p=some v:=by
  unfold X3G at e ⊢
  split at e
  case h_2=>cases e
  (try simp only at e ⊢)
  split at e
  · rename_i ha
    (try rw [ha]);(try simp only)
    split at e
    case h_2=>cases e
    rename_i n hn
    (try rw [hn]);(try simp only)
    split at e
    case h_2=>cases e
    rename_i l hl
    rw [a.rdL _ _ hl];exact e
  · rename_i ha
    (try rw [ha]);(try simp only);exact a.rd e
  · cases e
theorem X4x.slice {h h2:X04} (a:X4x h h2) {t:TypeId} {x v:Value} {lo hi:Option Value} (e:X1Z P h t x lo hi none=some v):X1Z P h2 t x lo hi none=some v:=by
  unfold X1Z at e ⊢
  simp only at e ⊢
  split at e<;>first | exact e | skip
  split at e<;>first | (cases e;done) | skip
  rename_i elem hu
  (try rw [hu]);(try simp only)
  split at e<;>first | (cases e;done) | skip
  rename_i ez l u B h1 h3 h4 h5
  rw [h1,h3,h4,a.blks _ B h5];simp only;exact e
theorem X69 {h h2:X04} {tm:Tr Value} {x:Option Operand} (e:∀ y,x=some y→X3Q y=true):X54 h2 tm x=X54 h tm x:=by
  cases x with
  | none=>rfl
  | some y=>simp only [X54,X37 (h:=h) (h2:=h2) (e y rfl)]
theorem X77 {call:X0E} {o:Oper} {tm:Tr Value} {h h' h2:X04} {v:Value} (hf:XAX o.op=true) (x:X4x h h2) (e:X05 P call o tm h=some (v,h')):X05 P call o tm h2=some (v,h2):=by
  obtain⟨dst,op,ty,pos,after,guard⟩:=o
  simp only [XAX,Bool.and_eq_true,List.all_eq_true]at hf
  obtain⟨hg,hop⟩:=hf
  have q:∀ x∈op.operands.toList,aev h2 tm x=aev h tm x:=fun x hx=>X37 (hg x hx)
  cases op<;>first | (cases hop;done) | skip
  case load t y =>
    simp only [X05,q y (by simp [Op.operands])]at e ⊢
    split at e
    · rename_i u hu
      (try simp only [hu])
      cases hl:X3G P h t u with
      | none=>rw [hl]at e;cases e
      | some r=>rw [hl]at e;cases e;rw [x.load hl];rfl
    · cases e
  case slice t y lo hi mx =>
    cases mx with
    | some m=>cases hop
    | none =>
      have ql:X54 h2 tm lo=X54 h tm lo:=X69 fun z hz=>hg z (by subst hz;simp [Op.operands])
      have qh:X54 h2 tm hi=X54 h tm hi:=X69 fun z hz=>hg z (by subst hz;simp [Op.operands])
      have qn:X54 h2 tm none=X54 h tm none:=rfl
      simp only [X05,q y (by simp [Op.operands]),ql,qh,qn]at e ⊢
      split at e
      · rename_i u l w m h1 h3 h4 h5
        (try simp only [h1,h3,h4,h5])
        have hm:m=none:=by cases h5;rfl
        subst hm
        cases hl:X1Z P h t u l w none with
        | none=>rw [hl]at e;cases e
        | some r=>rw [hl]at e;cases e;rw [x.slice hl];rfl
      · cases e
theorem X78 {h h':X04} {cells:Tr Value} {size esz b:Nat} (w:wfH h) (e:h.new cells size esz=some (b,h')):X4x h h':=by
  unfold X04.new at e
  split at e
  case h_2=>cases e
  cases e
  exact⟨fun x B q=>by
    have:x≠h.next:=by rintro rfl;rw [(w _ (Nat.le_refl _)).1]at q;cases q
    exact(Tr.get_put_other this).trans q,fun x C q=>by
    have:x≠h.next:=by rintro rfl;rw [(w _ (Nat.le_refl _)).2]at q;cases q
    exact(Tr.get_put_other this).trans q⟩
theorem XAZ {call:X0E} {o:Oper} {tm:Tr Value} {h h':X04} {v:Value} (hf:X3w o.op=true) (w:wfH h) (e:X05 P call o tm h=some (v,h')):X4x h h':=by
  obtain⟨dst,op,ty,pos,after,guard⟩:=o
  have pt:∀ {r:Option (Nat×X04)},X9z r=some (v,h')→∃ b,r=some (b,h'):=by
    intro r e
    unfold X9z at e
    split at e
    · cases e;exact⟨_,rfl⟩
    · cases e
  have slc:∀ {n c:Nat} {r:Option (Nat×X04)},X0l n c r=some (v,h')→∃ b,r=some (b,h'):=by
    intro n c r e
    unfold X0l at e
    split at e
    · cases e;exact⟨_,rfl⟩
    · cases e
  have bx:∀ u,XBo h u=some (v,h')→X4x h h':=by
    intro u e
    unfold XBo at e
    split at e
    case h_2=>cases e
    split at e
    case h_2=>cases e
    obtain⟨b,e⟩:=pt e
    exact X78 w e
  cases op<;>first | (cases hf;done) | skip
  case alloc t =>
    simp only [X05,X5L]at e
    split at e
    case h_2=>cases e
    exact bx _ e
  case box t y =>
    simp only [X05]at e
    split at e
    case h_2=>cases e
    exact bx _ e
  case buildSlice t n ps =>
    simp only [X05]at e
    split at e
    case h_2=>cases e
    unfold X0v at e
    split at e
    case h_2=>cases e
    split at e
    case h_2=>cases e
    split at e
    case h_2=>cases e
    split at e
    case h_2=>cases e
    obtain⟨b,e⟩:=slc e
    exact X78 w e
  case makeSlice t x y =>
    simp only [X05]at e
    split at e
    case h_2=>cases e
    unfold X18 at e
    split at e
    case h_2=>cases e
    split at e
    case h_2=>cases e
    split at e
    case h_2=>cases e
    split at e
    case h_2=>cases e
    obtain⟨b,e⟩:=slc e
    exact X78 w e
theorem XCA {call:X0E} {nt:Nat} {ops:Array Oper} {W:AH→Prop}:∀ {l:List Oper} {st fin:St} {es:List Ent},X73 P call nt ops W l st→X25 P call nt ops l st=some (es,fin)→∀ (i:Nat) en,es[i]?=some en→∃ a,Ab en.st.h a∧W a:=by
  intro l
  induction l with
  | nil=>intro st fin es _ h i en e;simp only [X25,Option.some.injEq,Prod.mk.injEq]at h;obtain⟨rfl,_⟩:=h;simp at e
  | cons o l ih =>
    intro st fin es w h i en e
    obtain⟨w1,w2⟩:=w
    simp only [X25]at h
    cases hw:Region.wanted o (X0W ops st.tm)with
    | true =>
      rw [hw]at h
      simp only at h
      cases hs:X05 P call o st.tm st.h with
      | none=>rw [hs]at h;cases h
      | some r =>
        obtain⟨v,h'⟩:=r
        rw [hs]at h
        simp only at h
        cases hp:X25 P call nt ops l ⟨X32 nt st.tm o.dst v,h'⟩with
        | none=>rw [hp]at h;cases h
        | some r2 =>
          obtain⟨es',fin'⟩:=r2
          rw [hp]at h
          cases h
          cases i with
          | zero=>simp at e;subst e;exact w1
          | succ i=>exact ih (w2 _ (by simp only [X1e,hw,hs])) hp i en (by simpa using e)
    | false =>
      rw [hw]at h
      simp only at h
      cases hp:X25 P call nt ops l ⟨X32 nt st.tm o.dst undef,st.h⟩with
      | none=>rw [hp]at h;cases h
      | some r2 =>
        obtain⟨es',fin'⟩:=r2
        rw [hp]at h
        cases h
        cases i with
        | zero=>simp at e;subst e;exact w1
        | succ i=>exact ih (w2 _ (by simp only [X1e,hw])) hp i en (by simpa using e)
theorem XAa {call:X0E} {nt:Nat} {ops:Array Oper} {W:AH→Prop} {l:List Oper} {st fin:St} {es:List Ent} (w:X73 P call nt ops W l st) (h:X25 P call nt ops l st=some (es,fin)):∀ (j:Nat) h2,(X0w es fin)[j]?=some h2→∃ a,Ab h2 a∧W a:=by
  have hfin:∀ (l:List Oper) (st fin:St) (es:List Ent),X73 P call nt ops W l st→X25 P call nt ops l st=some (es,fin)→∃ a,Ab fin.h a∧W a:=by
    intro l
    induction l with
    | nil=>intro st fin es w h;simp only [X25,Option.some.injEq,Prod.mk.injEq]at h;obtain⟨_,rfl⟩:=h;exact w
    | cons o l ih =>
      intro st fin es w h
      obtain⟨w1,w2⟩:=w
      simp only [X25]at h
      cases hw:Region.wanted o (X0W ops st.tm)with
      | true =>
        rw [hw]at h
        simp only at h
        cases hs:X05 P call o st.tm st.h with
        | none=>rw [hs]at h;cases h
        | some r =>
          obtain⟨v,h'⟩:=r
          rw [hs]at h
          simp only at h
          cases hp:X25 P call nt ops l ⟨X32 nt st.tm o.dst v,h'⟩with
          | none=>rw [hp]at h;cases h
          | some r2 =>
            obtain⟨es',fin'⟩:=r2
            rw [hp]at h
            cases h
            exact ih _ _ _ (w2 _ (by simp only [X1e,hw,hs])) hp
      | false =>
        rw [hw]at h
        simp only at h
        cases hp:X25 P call nt ops l ⟨X32 nt st.tm o.dst undef,st.h⟩with
        | none=>rw [hp]at h;cases h
        | some r2 =>
          obtain⟨es',fin'⟩:=r2
          rw [hp]at h
          cases h
          exact ih _ _ _ (w2 _ (by simp only [X1e,hw])) hp
  have key:∀ (es:List Ent) (fin:St) (j:Nat) h2,(X0w es fin)[j]?=some h2→h2=fin.h∨∃ (i:Nat) (en:Ent),es[i]?=some en∧h2=en.st.h:=by
    intro es
    induction es with
    | nil=>intro fin j h2 e;cases j with
      | zero=>simp [X0w]at e;exact .inl e.symm
      | succ j=>simp [X0w]at e
    | cons e es ih =>
      intro fin j h2 eq
      simp only [X0w]at eq
      have up:(h2=fin.h∨∃ (i:Nat) (en:Ent),es[i]?=some en∧h2=en.st.h)→(h2=fin.h∨∃ (i:Nat) (en:Ent),(e::es)[i]?=some en∧h2=en.st.h):=fun q=>by
        rcases q with q | ⟨i,en,q1,q2⟩
        · exact .inl q
        · exact .inr ⟨i+1,en,by simpa using q1,q2⟩
      split at eq
      · cases j with
        | zero=>simp at eq;exact .inr ⟨0,e,rfl,eq.symm⟩
        | succ j=>exact up (ih _ j _ (by simpa using eq))
      · exact up (ih _ j _ eq)
  intro j h2 e
  rcases key es fin j h2 e with rfl | ⟨i,en,e1,rfl⟩
  · exact hfin _ _ _ _ w h
  · exact XCA w h i en e1
def Frz (P:Program) (ops:Array Oper) (W:AH→Prop) (fz:List Nat) (s:Env):Prop :=
  ∀ i∈fz,∀ t x,XC7 ops i=some (t,x)→s x=undef∨∃ v,∀ a',W a'→X3l P a' t (s x)=some v
theorem Frz.none {ops:Array Oper} {W:AH→Prop} {s:Env}:Frz P ops W [] s:=fun _ h=>by cases h
def XBe (fz:List Nat) (ops:Array Oper):Bool:=allTo (fun i=>match ops[i]? with
  | none=>false
  | some o=>match X0I o.op with
    | false=>true
    | true=>X7k ops i || (XAW o.op && o.dst.isSome) || (XAX o.op && X9E ops i && o.dst.isSome) || (fz.any (Nat.beq i) && o.dst.isSome && (XC7 ops i).isSome)) ops.size
theorem X7m {call:X0E} {nt:Nat} {ops:Array Oper} {st fin:St} {es:List Ent} (hp:X25 P call nt ops ops.toList st=some (es,fin)):∀ k,X0H es k=true→∃ p,ops[k]?=some p∧X0I p.op=false:=by
  have hlen:es.length=ops.size:=by rw [X1R _ _ _ _ hp];simp
  intro k hk
  have hkl:=X1t hk
  have hk2:k<ops.size:=by omega
  obtain⟨en,q1,q2,q3,q4,q5,q6⟩:=X2T _ _ _ _ hp k ops[k] (by simp [hk2])
  refine⟨ops[k],by simp [hk2],?_⟩
  unfold X0H at hk
  rw [q1]at hk
  simp only at hk
  rw [q4]at hk
  simp only [Bool.and_eq_true,Bool.not_eq_true']at hk
  exact hk.2
theorem XCB {call : X0E} {nt : Nat} {ops : Array Oper} {W : AH → Prop} {fz : List Nat} {st fin : St} {es : List Ent} (hs : X1U ops = true) (hb : X2G nt ops = true) (hnt : nt < 1000000) (ho : XBe fz ops = true)
    (hp:X25 P call nt ops ops.toList st=some (es,fin)) (hwf:X73 P call nt ops W ops.toList st) (hfz:Frz P ops W fz (gd fin.tm)) (hl:∀ d∈X75 ops,veq (gd fin.tm d) (gd fin.tm d)=true):X3K P call ops es fin=true:=by
  have hlen:es.length=ops.size:=by rw [X1R _ _ _ _ hp];simp
  have hmut:=X7m hp
  unfold X3K
  cases hany:es.any (·.mut_)with
  | false=>rfl
  | true =>
    simp only
    refine X2i fun i hi=>?_
    obtain⟨en,q1,q2,q3,q4,q5,q6⟩:=X2T _ _ _ _ hp i ops[i] (by simp [hi])
    have hoi:ops[i]?=some ops[i]:=by simp [hi]
    have hord:=X0C ho i hi
    rw [q1,hoi]
    rw [hoi]at hord
    simp only at hord ⊢
    cases hm:en.mut_ with
    | true=>rfl
    | false =>
      simp only
      cases hw:en.want with
      | false=>rfl
      | true =>
        simp only
        rw [hm,hw]at q4
        have hr:X0I ops[i].op=true:=by
          have:=q4.symm;simpa using this
        rw [hr]at hord
        simp only at hord
        refine X2i fun j hj=>?_
        obtain⟨h',p1,p2⟩:=q6 hw
        cases hpin:X7k ops i with
        | false =>
          rw [hpin]at hord
          simp only [Bool.false_or,Bool.or_eq_true,Bool.and_eq_true]at hord
          have hsome:ops[i].dst.isSome=true:=by
            rcases hord with(h | h) | h
            · exact h.2
            · exact h.2
            · exact h.1.2
          have hdst:∃ d,ops[i].dst=some d:=by
            cases hd:ops[i].dst with
            | none=>rw [hd]at hsome;cases hsome
            | some d=>exact⟨d,rfl⟩
          obtain⟨d,hd⟩:=hdst
          have hv:veq en.v en.v=true:=by
            have hin:d∈X75 ops:=by
              unfold X75
              rw [List.mem_filterMap]
              refine⟨i,by simpa using hi,?_⟩
              rw [hoi]
              simp only [hr,hpin,Bool.not_false,Bool.and_self]
              exact hd
            have hval:gd fin.tm d=en.v:=by
              have:=X2j hnt d (X1S hb hoi hd) ops.toList st es fin hp ops.size (by simp) i ops[i] en hi (by simp [hi]) hd q1 (fun k' o' h1 h2 ho' hd'=>by
                have ho2:ops[k']?=some o':=by simpa using ho'
                exact(X0D hs ho2).1 d hd' i ops[i] h1 hoi hd)
              have h2:X4v es fin ops.size=fin:=by
                unfold X4v
                rw [List.getElem?_eq_none (by omega)]
              rw [h2]at this
              exact this
            rw [← hval];exact hl d hin
          cases hh:(X0w es fin)[j]? with
          | none=>simp
          | some h2 =>
            rcases hord with(hord | hord) | hord
            · simp only [X76 hord.1 h2 p1,hv,Bool.or_true]
            rotate_left
            · obtain⟨⟨hmem,_⟩,hsx⟩:=hord
              have hmem:i∈fz:=by
                obtain⟨y,y1,y2⟩:=List.any_eq_true.1 hmem
                have:i=y:=by simpa using y2
                rw [this];exact y1
              cases hfx:XC7 ops i with
              | none=>rw [hfx]at hsx;cases hsx
              | some tx =>
              obtain⟨t,x⟩:=tx
              obtain⟨o,o1,o2,o3⟩:=XAY hfx
              rw [hoi]at o1;cases o1
              have hx:gd en.st.tm x=gd fin.tm x:=by
                have e1:X4v es fin i=en.st:=by unfold X4v;rw [q1]
                have e2:X4v es fin ops.size=fin:=by unfold X4v;rw [List.getElem?_eq_none (by omega)]
                have e3:gd fin.tm x=gd (X4v es fin ops.size).tm x:=by rw [e2]
                rw [← e1,e3]
                by_cases hex:∃ (k:Nat) (p:Oper),ops[k]?=some p∧p.dst=some x
                · obtain⟨k,p,hk1,hk2⟩:=hex
                  have hki:k<i:=by
                    rcases Nat.lt_or_ge k i with h | h
                    · exact h
                    · exact absurd hk2 (o3 k p h hk1)
                  obtain⟨ek,r1,_⟩:=X2T _ _ _ _ hp k p (by rw [← hk1];simp)
                  have uni:∀ (k':Nat) (o':Oper),k<k'→ops.toList[k']?=some o'→o'.dst≠some x:=fun k' o' h1 ho' hd'=>by
                    have ho2:ops[k']?=some o':=by simpa using ho'
                    exact(X0D hs ho2).1 x hd' k p h1 hk1 hk2
                  have hxn:x<nt:=X1S hb hk1 hk2
                  rw [X2j hnt x hxn _ _ _ _ hp i (by simp;omega) k p ek hki (by rw [← hk1];simp) hk2 r1 (fun k' o' h1 _=>uni k' o' h1),
                    X2j hnt x hxn _ _ _ _ hp ops.size (by simp) k p ek (by omega) (by rw [← hk1];simp) hk2 r1 (fun k' o' h1 _=>uni k' o' h1)]
                · rw [X1W x _ _ _ _ hp i (by simp;omega) (fun k p _ h hd=>hex ⟨k,p,by rw [← h];simp,hd⟩),X1W x _ _ _ _ hp ops.size (by simp) (fun k p _ h hd=>hex ⟨k,p,by rw [← h];simp,hd⟩)]
              have key:∀ (h:X04) r,X3G P h t (gd en.st.tm x)=r→X05 P call ops[i] en.st.tm h=match r with | some v=>some (v,h) | none=>none:=by
                intro h v e
                generalize ops[i]=o at o2
                obtain⟨dst,op,ty,pos,after,guard⟩:=o
                have o2:op=.load t (.tmp x):=o2
                subst o2
                simp only [X05,aev]
                show(match X3G P h t (gd en.st.tm x)with | some r=>some (r,h) | none=>none)=_
                rw [e]
              rcases hfz i hmem t x hfx with hu | ⟨v,hv2⟩
              · rw [key _ none (by rw [hx,hu];rfl)]at p1;cases p1
              obtain⟨a1,A1,W1⟩:=XCA hwf hp i en q1
              obtain⟨a2,A2,W2⟩:=XAa hwf hp j h2 hh
              have l1:=X3v A1 (hv2 a1 W1)
              have l2:=X3v A2 (hv2 a2 W2)
              rw [← hx]at l1 l2
              rw [key _ _ l1]at p1
              cases p1
              simp only [key _ _ l2,hv,Bool.or_true]
            · obtain⟨⟨hlook,hpl⟩,_⟩:=hord
              by_cases hjc:j=cnt es i
              · have:Nat.beq j (cnt es i)=true:=by rw [hjc];exact Nat.beq_refl _
                rw [this];rfl
              · cases hall:allTo (fun k=>!X0H es k || ((!((X0Z ops).getD i 0).testBit k || Nat.blt (cnt es k) j) && (!((X0Z ops).getD k 0).testBit i || Nat.ble j (cnt es k)))) ops.size with
                | false=>simp
                | true =>
                  have XAI:∀ k,X0H es k=true→(((X0Z ops).getD i 0).testBit k=true→cnt es k<j)∧(((X0Z ops).getD k 0).testBit i=true→j≤cnt es k):=by
                    intro k hk
                    have hkl:=X1t hk
                    have:=X0C hall k (by omega)
                    rw [hk]at this
                    simp only [Bool.not_true,Bool.false_or,Bool.and_eq_true,Bool.or_eq_true,Bool.not_eq_true',Nat.blt_eq,Nat.ble_eq]at this
                    refine⟨fun h=>?_,fun h=>?_⟩
                    · rcases this.1 with h1 | h1
                      · rw [h]at h1;cases h1
                      · exact h1
                    · rcases this.2 with h1 | h1
                      · rw [h]at h1;cases h1
                      · exact h1
                  have hpk:∀ k,X0H es k=true→pinned ops i k=true∨∃ p,ops[k]?=some p∧X3w p.op=true∧i<k:=by
                    intro k hk
                    obtain⟨p,hp1,hp2⟩:=hmut k hk
                    have hkl:=X1t hk
                    have:=X0C hpl k (by omega)
                    rw [hp1]at this
                    simp only [hp2,Bool.false_or,Bool.or_eq_true,Bool.and_eq_true,Nat.blt_eq]at this
                    rcases this with h | h
                    · exact .inl h
                    · exact .inr ⟨p,hp1,h.1,h.2⟩
                  have hni:∀ k,X0H es k=true→k≠i:=by
                    rintro k hk rfl
                    unfold X0H at hk
                    rw [q1]at hk
                    simp only at hk
                    rw [hm]at hk;cases hk
                  have hil:i≤es.length:=by omega
                  have hjl:j<(X0w es fin).length:=(List.getElem?_eq_some_iff.1 hh).1
                  obtain⟨hlast,_⟩:=X2k es fin
                  rcases Nat.lt_or_gt_of_ne hjc with hlt | hgt
                  · exfalso
                    obtain⟨k,k1,k2,k3⟩:=X7l es i hil j hlt
                    rcases hpk k k2 with hpp | ⟨_,_,_,h⟩
                    · unfold pinned at hpp
                      simp only [Bool.or_eq_true]at hpp
                      rcases hpp with h | h
                      · have:=(XAI k k2).1 h;omega
                      · have:=X5c hs h;omega
                    · omega
                  · -- only new things are laid between
                    have step:∀ m,cnt es i≤m→m≤j→∃ hm2,(X0w es fin)[m]?=some hm2∧X4x en.st.h hm2:=by
                      intro m
                      induction m with
                      | zero => intro h1 h2; have : cnt es i = 0 := by omega
                                exact⟨en.st.h,by rw [← this];exact q2,X4x.refl _⟩
                      | succ m ih =>
                        intro h1 h2
                        by_cases he:cnt es i=m+1
                        · exact⟨en.st.h,by rw [← he];exact q2,X4x.refl _⟩
                        · obtain⟨hm2,e1,e2⟩:=ih (by omega) (by omega)
                          obtain⟨k,k1,k2,k3⟩:=X7l es es.length (Nat.le_refl _) m (by omega)
                          have hki:i<k:=by
                            rcases Nat.lt_or_ge k i with h | h
                            · have:=X8F k2 h hil;omega
                            · have:=hni k k2;omega
                          have hlay:∃ p,ops[k]?=some p∧X3w p.op=true:=by
                            rcases hpk k k2 with hpp | ⟨p,h3,h4,_⟩
                            · exfalso
                              unfold pinned at hpp
                              simp only [Bool.or_eq_true]at hpp
                              rcases hpp with h | h
                              · have:=X5c hs h;omega
                              · have:=(XAI k k2).2 h;omega
                            · exact⟨p,h3,h4⟩
                          obtain⟨p,hp1,hp2⟩:=hlay
                          obtain⟨enk,r1,r2,r3,r4,r5,r6⟩:=X2T _ _ _ _ hp k p (by rw [← hp1];simp)
                          have hmk:enk.mut_=true:=by
                            unfold X0H at k2
                            rw [r1]at k2;exact k2
                          have hwk:enk.want=true:=by
                            rw [hmk]at r4
                            have:=r4.symm;simp only [Bool.and_eq_true]at this;exact this.1
                          obtain⟨hk',s1,s2⟩:=r6 hwk
                          rw [hmk]at s2
                          rw [k3]at r2 s2
                          rw [e1]at r2;cases r2
                          exact⟨hk',s2,e2.trans (XAZ hp2 (XCA hwf hp k enk r1).choose_spec.1.wf s1)⟩
                    obtain⟨hm2,e1,e2⟩:=step j (by omega) (Nat.le_refl _)
                    rw [hh]at e1;cases e1
                    simp only [X77 hlook e2 p1,hv,Bool.or_true]
        | true =>
          by_cases hjc:j=cnt es i
          · have:Nat.beq j (cnt es i)=true:=by rw [hjc];exact Nat.beq_refl _
            rw [this];rfl
          · have hpk : ∀ k, X0H es k = true → pinned ops i k = true := by
              intro k hk
              obtain⟨p,hp1,hp2⟩:=hmut k hk
              have hkl:=X1t hk
              have:=X0C hpin k (by omega)
              rw [hp1]at this
              simpa only [hp2,Bool.false_or]using this
            have hni:∀ k,X0H es k=true→k≠i:=by
              rintro k hk rfl
              unfold X0H at hk
              rw [q1]at hk
              simp only at hk
              rw [hm]at hk;cases hk
            obtain⟨hlast,_⟩:=X2k es fin
            have hno:allTo (fun k=>!X0H es k || ((!((X0Z ops).getD i 0).testBit k || Nat.blt (cnt es k) j) && (!((X0Z ops).getD k 0).testBit i || Nat.ble j (cnt es k)))) ops.size=false:=by
              cases hall:allTo (fun k=>!X0H es k || ((!((X0Z ops).getD i 0).testBit k || Nat.blt (cnt es k) j) && (!((X0Z ops).getD k 0).testBit i || Nat.ble j (cnt es k)))) ops.size with
              | false=>rfl
              | true =>
                exfalso
                have XAI:∀ k,X0H es k=true→(((X0Z ops).getD i 0).testBit k=true→cnt es k<j)∧(((X0Z ops).getD k 0).testBit i=true→j≤cnt es k):=by
                  intro k hk
                  have hkl:=X1t hk
                  have:=X0C hall k (by omega)
                  rw [hk]at this
                  simp only [Bool.not_true,Bool.false_or,Bool.and_eq_true,Bool.or_eq_true,Bool.not_eq_true',Nat.blt_eq,Nat.ble_eq]at this
                  refine⟨fun h=>?_,fun h=>?_⟩
                  · rcases this.1 with h1 | h1
                    · rw [h]at h1;cases h1
                    · exact h1
                  · rcases this.2 with h1 | h1
                    · rw [h]at h1;cases h1
                    · exact h1
                have hil:i≤es.length:=by omega
                rcases Nat.lt_or_gt_of_ne hjc with hlt | hgt
                · obtain⟨k,k1,k2,k3⟩:=X7l es i hil j hlt
                  have hpp:=hpk k k2
                  unfold pinned at hpp
                  simp only [Bool.or_eq_true]at hpp
                  rcases hpp with h | h
                  · have:=(XAI k k2).1 h;omega
                  · have:=X5c hs h;omega
                · obtain⟨k,k1,k2,k3⟩:=X7l es es.length (Nat.le_refl _) (cnt es i) (by omega)
                  have hki:i<k:=by
                    rcases Nat.lt_or_ge k i with h | h
                    · have:=X8F k2 h hil;omega
                    · have:=hni k k2;omega
                  have hpp:=hpk k k2
                  unfold pinned at hpp
                  simp only [Bool.or_eq_true]at hpp
                  rcases hpp with h | h
                  · have:=X5c hs h;omega
                  · have:=(XAI k k2).2 h;omega
            rw [hno];simp
theorem XCC {fz:List Nat} {ops:Array Oper} (h:XC8 fz ops=true):XBe fz ops=true:=by
  refine X2i fun i hi=>?_
  have h1:=X0C h i hi
  split at h1
  · cases h1
  · rename_i o ho
    rw [ho]
    simp only
    cases hr:X0I o.op with
    | false=>rfl
    | true=>rw [hr]at h1;exact h1
theorem XDP {call : X0E} {nt : Nat} {ops : Array Oper} {W : AH → Prop} {fz : List Nat} {st fin : St} {es : List Ent} (hs : X1U ops = true) (hb : X2G nt ops = true) (hnt : nt < 1000000) (ho : XC8 fz ops = true)
    (hp:X25 P call nt ops ops.toList st=some (es,fin)) (hwf:X73 P call nt ops W ops.toList st) (hfz:Frz P ops W fz (gd fin.tm)) (hl:∀ d∈X75 ops,veq (gd fin.tm d) (gd fin.tm d)=true):X7V P call ops es fin=true:=by
  have hmut:=X7m hp
  have hR:=XCB hs hb hnt (XCC ho) hp hwf hfz hl
  unfold X7V
  unfold X3K at hR
  cases hany:es.any (·.mut_)with
  | false=>rfl
  | true =>
    rw [hany]at hR
    simp only at hR ⊢
    refine X2i fun i hi=>?_
    have h1:=X0C hR i hi
    have hord:=X0C ho i hi
    obtain⟨en,q1,q2,q3,q4,q5,q6⟩:=X2T _ _ _ _ hp i ops[i] (by simp [hi])
    have hoi:ops[i]?=some ops[i]:=by simp [hi]
    rw [q1,hoi]at h1 ⊢
    rw [hoi]at hord
    simp only at h1 hord ⊢
    cases hm:en.mut_ with
    | true =>
      rw [hm]at q4
      have hr:X0I ops[i].op=false:=by
        have:=q4.symm;simp only [Bool.and_eq_true,Bool.not_eq_true']at this;exact this.2
      rw [hr]at hord
      simp only at hord ⊢
      refine X2i fun k hk=>?_
      cases hmk:X0H es k with
      | false=>rfl
      | true =>
        obtain⟨p,hp1,hp2⟩:=hmut k hmk
        have:=X0C hord k hk
        rw [hp1]at this
        simp only [hp2,Bool.false_or]at this
        rw [this];rfl
    | false=>rw [hm]at h1;exact h1
def X7n (fz:List Nat) (nt:Nat) (ops:Array Oper):Bool:=X1U ops && X2G nt ops && Nat.blt nt 1000000 && XC8 fz ops
theorem Cx.drawn {nt:Nat} {s:Env} {a:AH} {Q:X9C} {id:Nat} {ops:Array Oper} {W:AH→Prop} {fz:List Nat} (ht:X7n fz nt ops=true) (h:X2t P ov nt ops W ops.toList s a fun s' a'=>(∀ d∈X75 ops,veq (s' d) (s' d)=true)∧Frz P ops W fz s'∧Q.n s' a'):Cx P ov nt (.region id ops true) s a Q:=by
  simp only [X7n,Bool.and_eq_true]at ht
  obtain⟨⟨⟨hs,hb⟩,hn⟩,ho⟩:=ht
  have hn:nt<1000000:=by simpa using hn
  intro tm hp hgd A
  obtain⟨st,a',⟨K,e⟩,A',q⟩:=h tm hp hgd A
  refine⟨.normal,st,a',⟨K+1,fun k hk=>?_⟩,A',q.2.2⟩
  cases k with
  | zero=>omega
  | succ k =>
    show X07 P ov (X0N P) (exec P ov (X0N P) k) false nt (.region id ops true) ⟨tm,hp⟩=_
    have hd:X0N P (X3P P ov k) nt ops ⟨tm,hp⟩=some st:=by
      obtain⟨es,he⟩:=XC9 _ _ _ (e k (by omega)).1
      have hdyn:=XDP hs hb hn ho he (e k (by omega)).2 q.2.1 q.1
      simp only [X0N,XBV,hs,hb,Bool.and_self,X5w,he,hdyn]
    simp only [X07,hd]
end
end Go.Vai
namespace Go.Vai
noncomputable section
variable {P:Program} {ov:Ov}
theorem X6A (nt:Nat) (s:Env) (d:Nat) (v:Value) (t:Nat):XC3 nt s (some d) v t=if t=d∧d<nt then v else s t:=rfl
theorem XAb (k:IntKind):kEq k k=true:=by cases k<;>rfl
theorem X27 {op:BinOp} {k:IntKind} {a b:Int} (h1:op≠.shl) (h2:op≠.shr):X70 op (.int k a) (.int k b)=XBn op k a b:=by
  unfold X70
  simp only [XAb]
  all_goals cases op<;>first | rfl | exact absurd rfl h1 | exact absurd rfl h2
section
variable (t:TypeId) (ox oy:Operand) (k:IntKind) (a b:Int)
theorem XCD:X1q P .add t ox oy (.int k a) (.int k b)=some (.int k (X0h k (a+b))):=by
  unfold X1q;rw [X27 (by simp) (by simp)];rfl
theorem XCE:X1q P .sub t ox oy (.int k a) (.int k b)=some (.int k (X0h k (a - b))):=by
  unfold X1q;rw [X27 (by simp) (by simp)];rfl
theorem XCF:X1q P .mul t ox oy (.int k a) (.int k b)=some (.int k (X0h k (a*b))):=by
  unfold X1q;rw [X27 (by simp) (by simp)];rfl
theorem XCG:X1q P .eql t ox oy (.int k a) (.int k b)=some (.bool (decide (a=b))):=by
  unfold X1q;rw [X27 (by simp) (by simp)];show some (Value.bool (eqI a b))=_;rw [X8A];rfl
theorem XCH:X1q P .neq t ox oy (.int k a) (.int k b)=some (.bool (!decide (a=b))):=by
  unfold X1q;rw [X27 (by simp) (by simp)];show some (Value.bool (!eqI a b))=_;rw [X8A];rfl
theorem XCI:X1q P .lss t ox oy (.int k a) (.int k b)=some (.bool (decide (a<b))):=by
  unfold X1q;rw [X27 (by simp) (by simp)];show some (Value.bool (ltI a b))=_;rw [X6R]
theorem XCJ:X1q P .gtr t ox oy (.int k a) (.int k b)=some (.bool (decide (b<a))):=by
  unfold X1q;rw [X27 (by simp) (by simp)];show some (Value.bool (ltI b a))=_;rw [X6R]
theorem XCK:X1q P .leq t ox oy (.int k a) (.int k b)=some (.bool (decide (a≤b))):=by
  unfold X1q;rw [X27 (by simp) (by simp)];show some (Value.bool (!ltI b a))=_;rw [X6R]
  by_cases h:b<a
  · rw [decide_eq_true h,decide_eq_false (by omega)];rfl
  · rw [decide_eq_false h,decide_eq_true (by omega)];rfl
theorem XCL:X1q P .geq t ox oy (.int k a) (.int k b)=some (.bool (decide (b≤a))):=by
  unfold X1q;rw [X27 (by simp) (by simp)];show some (Value.bool (!ltI a b))=_;rw [X6R]
  by_cases h:a<b
  · rw [decide_eq_true h,decide_eq_false (by omega)];rfl
  · rw [decide_eq_false h,decide_eq_true (by omega)];rfl
end
theorem wrap64 {n:Int} (h0 : -9223372036854775808≤n) (h1:n<9223372036854775808):X0h .i64 n=n:=by
  rw [X1c];exact X5o (fun h=>by cases h) h0 h1
theorem wrap8 {n:Int} (h0:0≤n) (h1:n<256):X0h .u8 n=n:=by
  rw [X1c];exact X5o (fun _=>h0) (by show -(256:Int)≤n;omega) h1
theorem XDQ (b:Bool):X0p P (Op.unary .not (.bool b))=some (.bool (!b)):=by cases b<;>rfl
section
variable (a:AH)
theorem XCM (l:List Value) (e x:Nat):(a.new l e).blk x=if x=a.next then some ⟨l,a.next,true,e⟩else a.blk x:=rfl
theorem X3x (l:List Value) (e:Nat):(a.new l e).blk a.next=some ⟨l,a.next,true,e⟩:=if_pos rfl
theorem XCN {l:List Value} {e x:Nat} (h:x≠a.next):(a.new l e).blk x=a.blk x:=if_neg h
end
theorem XCO {a:AH} {b:Nat} {B:AB} (h:a.blk b=some B) (i:Nat):a.rd b i=B.l[i]?:=by unfold AH.rd;rw [h]
theorem X6B {a:AH} {b:Nat} {B:AB} (h:a.blk b=some B) {i n:Nat} (hn:i+n≤B.l.length):a.rdL b i n=some ((B.l.drop i).take n):=by unfold AH.rdL;rw [h];simp only [if_pos hn]
theorem X2t.guard {nt : Nat} {ops : Array Oper} {W : AH → Prop} {dst : Option Nat} {op : Op} {ty : TypeId} {pos : String} {after : Array Edge} {j d : Nat} {w b : Bool} {l : List Oper} {s : Env} {a : AH} {Q : Env → AH → Prop}
    (hw:W a) (hd:X74 ops j=some d) (hb:s d=.bool b) (h1:b=w→X2t P ov nt ops W (⟨dst,op,ty,pos,after,none⟩::l) s a Q) (h2:b = !w→X2t P ov nt ops W l (XC3 nt s dst undef) a Q):X2t P ov nt ops W (⟨dst,op,ty,pos,after,some (j,w)⟩::l) s a Q:=by
  by_cases h:b=w
  · intro tm hp hs A
    obtain⟨st,a',⟨K,e⟩,A',q⟩:=h1 h tm hp hs A
    refine⟨st,a',⟨K,fun k hk=>?_⟩,A',q⟩
    have e:=e k hk
    have hw:=X1K (o:=⟨dst,op,ty,pos,after,some (j,w)⟩) rfl hd hb tm hs
    have eq:X1e P (X3P P ov k) nt ops ⟨dst,op,ty,pos,after,some (j,w)⟩ ⟨tm,hp⟩=X1e P (X3P P ov k) nt ops ⟨dst,op,ty,pos,after,none⟩ ⟨tm,hp⟩:=by
      simp only [X1e,hw,h,beq_self_eq_true,X4C (o:=⟨dst,op,ty,pos,after,none⟩) rfl]
      rfl
    refine⟨?_,e.2.1,fun st' e'=>e.2.2 st' (by rw [← eq];exact e')⟩
    have e1:=e.1
    simp only [X1P]at e1 ⊢
    rw [eq];exact e1
  · refine X2t.skip hw (fun tm hs=>?_) (h2 (by cases b<;>cases w<;>first | rfl | exact absurd rfl h))
    rw [X1K (o:=⟨dst,op,ty,pos,after,some (j,w)⟩) rfl hd hb tm hs]
    cases b<;>cases w<;>first | rfl | exact absurd rfl h
end
end Go.Vai

/-
  What is proved here: data without addresses (numbers, texts, rows as lists), a table of the objects that a call works on, how what is known of a call's slots and table goes on as the heap does (part RB). No conditions but those that the theorems state.
-/
import Derived.Test.YtmmmjbipgngamaaGreatDoorQE
set_option linter.unusedVariables false
set_option linter.unusedSimpArgs false
namespace Go.Vai
noncomputable section
inductive D where
 | int (k:IntKind) (z:Int)
 | bool (b:Bool)
 | str (s:ByteArray)
 | lit (v:Value)
 | fn (f:FuncId)
 | sl (e n:Nat) (cs:List D)
 | any
 | cmp
 | loc (i o:Nat)
 | row (j o n c:Nat)
 | ep (e n:Nat) (cs:List D) (o:Nat)
 | agg (cs:List D)
 | clo (f:FuncId) (cs:List D)
 | bx (cs:List D) (o:Nat)
 | tup (ds:List D)
structure X1C (W:Nat→Prop) (a a':AH):Prop where
 next:a.next≤a'.next
 blk:∀ b B,a.blk b=some B→¬ W B.k→a'.blk b=some B
 itr:∀ b x,a.itr b=some x→a'.itr b=some x
theorem X1C.refl (W:Nat→Prop) (a:AH):X1C W a a:=⟨Nat.le_refl _,fun _ _ h _=>h,fun _ _ h=>h⟩
theorem X1C.trans {W V:Nat→Prop} {a a' a'':AH} (h:X1C W a a') (k:X1C V a' a'') (hv:∀ b B,a.blk b=some B→V B.k→W B.k):X1C W a a'' :=
 ⟨Nat.le_trans h.next k.next,fun b B e w=>k.blk b B (h.blk b B e w) (fun v=>w (hv b B e v)),fun b x e=>k.itr b x (h.itr b x e)⟩
theorem X1C.weak {W V:Nat→Prop} {a a':AH} (h:X1C W a a') (hv:∀ k,W k→V k):X1C V a a' :=
 ⟨h.next,fun b B e w=>h.blk b B e fun x=>w (hv _ x),h.itr⟩
def AH.ok (a:AH):Prop:=(∀ b B,a.blk b=some B→b<a.next∧B.k<a.next)
theorem Ab.ok {h:Heap} {a:AH} (A:Ab h a):a.ok:=fun b B e=>by
 have K:=A.blk b B e
 rw [A.next];exact⟨K.lt,K.klt⟩
def oneV (v:Value):Bool:=match v with
 | .agg _=>false
 | .tuple _=>false
 | _=>true
inductive CR (M:Nat→Prop) (a:AH):D→Value→Prop
 | int {k:IntKind} {z:Int}:CR M a (.int k z) (.int k z)
 | bool {b:Bool}:CR M a (.bool b) (.bool b)
 | str {s:ByteArray}:CR M a (.str s) (.string s)
 | lit {v:Value} (h:oneV v=true):CR M a (.lit v) v
 | fn {f:FuncId}:CR M a (.fn f) (.func (.func f) #[] #[])
 | nil {e:Nat}:CR M a (.sl e 0 []) (.slice none 0 0)
 | sl {b i e n c:Nat} {cs:List D} {B:AB} {val:Nat→Value} (h1:a.blk b=some B) (h2:¬ M B.k) (h3:B.k<a.next) (h4:B.e=e) (h5:cs.length=n*e) (h6:i+n*e≤B.l.length) (h7:n≤c)
   (hv:∀ j d,cs[j]?=some d→B.l[i+j]?=some (val j)) (hr:∀ j d,cs[j]?=some d→CR M a d (val j)):CR M a (.sl e n cs) (.slice (some ⟨b,i,none⟩) n c)
theorem CR.mono {M M' W:Nat→Prop} {a a':AH} {d:D} {v:Value} (h:CR M a d v) (K:X1C W a a') (hw:∀ k,W k→M k) (hm:∀ k,k<a.next→M' k→M k):CR M' a' d v:=by
 induction h with
 | int=>exact .int
 | bool=>exact .bool
 | str=>exact .str
 | lit h=>exact .lit h
 | fn=>exact .fn
 | nil=>exact .nil
 | sl h1 h2 h3 h4 h5 h6 h7 hv hr ih =>
  exact .sl (K.blk _ _ h1 fun w=>h2 (hw _ w)) (fun m=>h2 (hm _ h3 m)) (Nat.lt_of_lt_of_le h3 K.next) h4 h5 h6 h7 hv ih
structure X4U (M:Nat→Prop) (a:AH) (b i e n:Nat) (cs:List D):Prop where
 ex:∃ B,a.blk b=some B∧¬ M B.k∧B.k<a.next∧B.e=e∧cs.length=n*e∧i+n*e≤B.l.length∧∀ j d,cs[j]?=some d→∃ v,B.l[i+j]?=some v∧CR M a d v
theorem X4U.mono {M M' W:Nat→Prop} {a a':AH} {b i e n:Nat} {cs:List D} (h:X4U M a b i e n cs) (K:X1C W a a') (hw:∀ k,W k→M k) (hm:∀ k,k<a.next→M' k→M k):X4U M' a' b i e n cs:=by
 obtain⟨B,h1,h2,h3,h4,h5,h6,h7⟩:=h.ex
 exact⟨B,K.blk _ _ h1 fun w=>h2 (hw _ w),fun m=>h2 (hm _ h3 m),Nat.lt_of_lt_of_le h3 K.next,h4,h5,h6,fun j d e=>by
  obtain⟨v,q1,q2⟩:=h7 j d e
  exact⟨v,q1,q2.mono K hw hm⟩⟩
theorem CR.sl_inv {M:Nat→Prop} {a:AH} {e n:Nat} {cs:List D} {v:Value} (h:CR M a (.sl e n cs) v):(n=0∧cs=[]∧v=.slice none 0 0)∨∃ b i c,v=.slice (some ⟨b,i,none⟩) n c∧n≤c∧X4U M a b i e n cs:=by
 cases h with
 | nil=>exact .inl ⟨rfl,rfl,rfl⟩
 | sl h1 h2 h3 h4 h5 h6 h7 hv hr=>exact .inr ⟨_,_,_,rfl,h7,⟨_,h1,h2,h3,h4,h5,h6,fun j d e=>⟨_,hv j d e,hr j d e⟩⟩⟩
theorem X4U.cr {M:Nat→Prop} {a:AH} {b i e n c:Nat} {cs:List D} (h:X4U M a b i e n cs) (hc:n≤c):CR M a (.sl e n cs) (.slice (some ⟨b,i,none⟩) n c):=by
 obtain⟨B,h1,h2,h3,h4,h5,h6,h7⟩:=h.ex
 refine .sl (val:=fun j=>(B.l[i+j]?).getD undef) h1 h2 h3 h4 h5 h6 hc (fun j d e=>?_) fun j d e=>?_
 · obtain⟨v,q1,q2⟩:=h7 j d e;rw [q1];rfl
 · obtain⟨v,q1,q2⟩:=h7 j d e;rw [q1];exact q2
inductive Ob where
 | box (cs:List D)
 | row (e n:Nat) (cs:List D)
 | dead
abbrev Gh:=List (Option (Nat×Nat))
def Gh.cls (g:Gh):List Nat:=g.filterMap fun x=>x.map Prod.snd
theorem Gh.mem_cls {g:Gh} {k:Nat}:k∈g.cls↔∃ (i:Nat) (b:Nat),g[i]?=some (some (b,k)):=by
 unfold Gh.cls
 rw [List.mem_filterMap]
 constructor
 ·
  rintro⟨x,hx,e⟩
  obtain⟨i,hi⟩:=List.mem_iff_getElem?.1 hx
  cases x with
  | none=>cases e
  | some y=>obtain⟨b,k'⟩:=y;cases e;exact⟨i,b,hi⟩
 ·
  rintro⟨i,b,e⟩
  exact⟨some (b,k),List.mem_iff_getElem?.2 ⟨i,e⟩,rfl⟩
structure X9e (M:Nat→Prop) (a:AH) (b:Nat) (cs:List D):Prop where
 ex:∃ vs k,a.blk b=some ⟨vs,k,true,0⟩∧¬ M k∧k<a.next∧F2 (CR M a) cs vs
theorem X9e.mono {M M' W:Nat→Prop} {a a':AH} {b:Nat} {cs:List D} (h:X9e M a b cs) (K:X1C W a a') (hw:∀ k,W k→M k) (hm:∀ k,k<a.next→M' k→M k):X9e M' a' b cs:=by
 obtain⟨vs,k,h1,h2,h3,h7⟩:=h.ex
 exact⟨vs,k,K.blk _ _ h1 fun w=>h2 (hw _ w),fun m=>h2 (hm _ h3 m),Nat.lt_of_lt_of_le h3 K.next,h7.mono fun _ _ r=>r.mono K hw hm⟩
def MM (M:Nat→Prop) (g:Gh):Nat→Prop:=fun k=>M k∨k∈g.cls
def DL (M:Nat→Prop) (g:Gh) (a:AH) (d:D) (v:Value):Prop:=match d with
 | .any=>True
 | .cmp=>X1V v v=true∧∀ cs,v≠.agg cs
 | .loc i o=>∃ b k,g[i]?=some (some (b,k))∧v=.pointer (some ⟨b,o,none⟩)
 | .row j o n c=>(g[j]?=some none∧n=0∧c=0∧v=.slice none 0 0)∨∃ b k,g[j]?=some (some (b,k))∧v=.slice (some ⟨b,o,none⟩) n c
 | .ep e n cs o=>∃ b i,v=.pointer (some ⟨b,i+o,none⟩)∧X4U M a b i e n cs
 | .bx cs o=>∃ b,v=.pointer (some ⟨b,o,none⟩)∧X9e M a b cs
 | d=>CR M a d v
def D1 (M:Nat→Prop) (g:Gh) (a:AH) (d:D) (v:Value):Prop:=match d with
 | .agg ds=>∃ vs:List Value,v=.agg vs.toArray∧F2 (DL M g a) ds vs
 | .clo f ds=>∃ vs:List Value,v=.func (.func f) #[] vs.toArray∧F2 (DL M g a) ds vs
 | d=>DL M g a d v
def DR (M:Nat→Prop) (g:Gh) (a:AH) (d:D) (v:Value):Prop:=match d with
 | .tup ds=>∃ vs:List Value,v=.tuple vs.toArray∧F2 (D1 M g a) ds vs
 | d=>D1 M g a d v
theorem X3N (d:D):(∃ ds,d=.agg ds)∨(∃ f ds,d=.clo f ds)∨∀ M g a v,D1 M g a d v=DL M g a d v:=by
 cases d<;>first | exact .inl ⟨_,rfl⟩ | exact .inr (.inl ⟨_,_,rfl⟩) | exact .inr (.inr fun _ _ _ _=>rfl)
theorem X3w (d:D):(∃ ds,d=.tup ds)∨∀ M g a v,DR M g a d v=D1 M g a d v:=by
 cases d<;>first | exact .inl ⟨_,rfl⟩ | exact .inr fun _ _ _ _=>rfl
theorem D1.dr {M:Nat→Prop} {g:Gh} {a:AH} {d:D} {v:Value} (h:D1 M g a d v):DR M g a d v:=by
 cases d with
 | tup ds=>cases h
 | _=>exact h
theorem CR.dl {M:Nat→Prop} {g:Gh} {a:AH} {d:D} {v:Value} (h:CR M a d v):DL M g a d v:=by
 cases d with
 | any=>trivial
 | cmp=>cases h
 | loc i o=>cases h
 | row j o n c=>cases h
 | ep e n cs o=>cases h
 | bx cs o=>cases h
 | _=>exact h
theorem DL.d1 {M:Nat→Prop} {g:Gh} {a:AH} {d:D} {v:Value} (h:DL M g a d v):D1 M g a d v:=by
 cases d with
 | agg ds=>cases h
 | clo f ds=>cases h
 | _=>exact h
theorem DL.dr {M:Nat→Prop} {g:Gh} {a:AH} {d:D} {v:Value} (h:DL M g a d v):DR M g a d v:=h.d1.dr
def X1I:D→List Nat
 | .loc i _=>[i]
 | .row j _ _ _=>[j]
 | _=>[]
def X2U:D→List Nat
 | .agg ds=>ds.flatMap X1I
 | .clo _ ds=>ds.flatMap X1I
 | d=>X1I d
def XCj:D→List Nat
 | .tup ds=>ds.flatMap X2U
 | d=>X2U d
def Gh.On (g g':Gh):Prop:=∀ (i:Nat) x,g[i]?=some x→g'[i]?=some x
theorem Gh.On.refl (g:Gh):g.On g:=fun _ _ h=>h
theorem Gh.On.app (g l:Gh):g.On (g++l):=fun i x h=>by
 rw [List.getElem?_append_left (List.getElem?_eq_some_iff.1 h).1];exact h
def OnR (l:List Nat) (g g':Gh):Prop:=∀ i∈l,∀ x,g[i]?=some x→g'[i]?=some x
theorem Gh.On.onR {g g':Gh} (h:g.On g') (l:List Nat):OnR l g g':=fun i _ x e=>h i x e
theorem OnR.sub {l m:List Nat} {g g':Gh} (h:OnR l g g') (s:∀ i∈m,i∈l):OnR m g g':=fun i hi x e=>h i (s i hi) x e
theorem F2.mono_mem {α β:Type} {R S:α→β→Prop} {l:List α} {m:List β} (h:F2 R l m) (hr:∀ a∈l,∀ b,R a b→S a b):F2 S l m:=by
 induction h with
 | nil=>exact .nil
 | cons h t ih=>exact .cons (hr _ (by simp) _ h) (ih fun a ha b=>hr a (by simp [ha]) b)
section
variable {M M' W:Nat→Prop} {g g':Gh} {a a':AH} {d:D} {v:Value} (K:X1C W a a') (hw:∀ k,W k→M k) (hm:∀ k,k<a.next→M' k→M k)
include K hw hm
theorem DL.monoR (hg:OnR (X1I d) g g') (h:DL M g a d v):DL M' g' a' d v:=by
 cases d with
 | any=>trivial
 | cmp=>exact h
 | loc i o=>obtain⟨b,k,h1,h2⟩:=h;exact⟨b,k,hg _ (by simp [X1I]) _ h1,h2⟩
 | row j o n c =>
  rcases h with⟨h1,h2⟩ | ⟨b,k,h1,h2⟩
  · exact .inl ⟨hg _ (by simp [X1I]) _ h1,h2⟩
  · exact .inr ⟨b,k,hg _ (by simp [X1I]) _ h1,h2⟩
 | ep e n cs o=>obtain⟨b,i,h1,h2⟩:=h;exact⟨b,i,h1,h2.mono K hw hm⟩
 | bx cs o=>obtain⟨b,h1,h2⟩:=h;exact⟨b,h1,h2.mono K hw hm⟩
 | _=>exact CR.mono h K hw hm
theorem D1.monoR (hg:OnR (X2U d) g g') (h:D1 M g a d v):D1 M' g' a' d v:=by
 rcases X3N d with⟨ds,rfl⟩ | ⟨f0,ds,rfl⟩ | e
 ·
  obtain⟨vs,h1,h2⟩:=h
  exact⟨vs,h1,h2.mono_mem fun x hx y r=>DL.monoR K hw hm (hg.sub fun i hi=>by simp only [X2U,List.mem_flatMap];exact⟨x,hx,hi⟩) r⟩
 ·
  obtain⟨vs,h1,h2⟩:=h
  exact⟨vs,h1,h2.mono_mem fun x hx y r=>DL.monoR K hw hm (hg.sub fun i hi=>by simp only [X2U,List.mem_flatMap];exact⟨x,hx,hi⟩) r⟩
 ·
  rw [e]at h ⊢
  refine DL.monoR K hw hm (hg.sub fun i hi=>?_) h
  cases d with
  | agg ds=>simp [X1I]at hi
  | clo f ds=>simp [X1I]at hi
  | _=>exact hi
theorem DR.monoR (hg:OnR (XCj d) g g') (h:DR M g a d v):DR M' g' a' d v:=by
 rcases X3w d with⟨ds,rfl⟩ | e
 ·
  obtain⟨vs,h1,h2⟩:=h
  exact⟨vs,h1,h2.mono_mem fun x hx y r=>D1.monoR K hw hm (hg.sub fun i hi=>by simp only [XCj,List.mem_flatMap];exact⟨x,hx,hi⟩) r⟩
 ·
  rw [e]at h ⊢
  refine D1.monoR K hw hm (hg.sub fun i hi=>?_) h
  cases d with
  | tup ds=>simp [X2U,X1I]at hi
  | _=>exact hi
variable (hg:g.On g')
include hg
theorem DL.mono (h:DL M g a d v):DL M' g' a' d v:=DL.monoR K hw hm (hg.onR _) h
theorem D1.mono (h:D1 M g a d v):D1 M' g' a' d v:=D1.monoR K hw hm (hg.onR _) h
theorem DR.mono (h:DR M g a d v):DR M' g' a' d v:=DR.monoR K hw hm (hg.onR _) h
end
def ObR (M:Nat→Prop) (g:Gh) (a:AH) (x:Option (Nat×Nat)):Ob→Prop
 | .box cs=>∃ b k vs,x=some (b,k)∧a.blk b=some ⟨vs,k,true,0⟩∧F2 (DL M g a) cs vs
 | .row e n cs=>cs.length=n*e∧((x=none∧n=0)∨∃ b k vs,x=some (b,k)∧a.blk b=some ⟨vs,k,true,e⟩∧F2 (CR M a) cs vs)
 | .dead=>x=none
abbrev X0m:=List (Nat×D)
def lk:X0m→Nat→Option D
 | [],_=>none
 | (t,d)::r,x=>bif Nat.beq x t then some d else lk r x
theorem X0x (t:Nat) (d:D) (r:X0m):lk ((t,d)::r) t=some d:=by simp [lk]
theorem X0q {t x:Nat} (d:D) (r:X0m) (h:x≠t):lk ((t,d)::r) x=lk r x:=by
 have:Nat.beq x t=false:=by
  cases e:Nat.beq x t with
  | false=>rfl
  | true=>exact absurd (Nat.eq_of_beq_eq_true e) h
 simp only [lk,this,cond_false]
theorem X1g {t x:Nat} {d d':D} {r:X0m} (h:lk ((t,d)::r) x=some d'):(x=t∧d'=d)∨(x≠t∧lk r x=some d'):=by
 by_cases e:x=t
 · subst e;rw [X0x]at h;cases h;exact .inl ⟨rfl,rfl⟩
 · rw [X0q d r e]at h;exact .inr ⟨e,h⟩
structure SD where
 E:X0m
 L:List Ob
structure Cx0 where
 nt:Nat
 M:Nat→Prop
 a0:AH
 g0:Gh
 bx:Nat→Prop
structure SR (C:Cx0) (σ:SD) (g:Gh) (s:Env) (a:AH):Prop where
 ok:a.ok
 old:∀ k,C.M k→k<C.a0.next
 env:∀ t d,lk σ.E t=some d→DR (MM C.M g) g a d (s t)
 len:g.length=σ.L.length
 pl:C.g0.length≤g.length
 obj:∀ (i:Nat) x o,g[i]?=some x→σ.L[i]?=some o→ObR (MM C.M g) g a x o
 nd:g.cls.Nodup
 nm:∀ k∈g.cls,¬ C.M k∧k<a.next∧(k∈C.g0.cls∨C.a0.next≤k)
 kp:X1C (·∈C.g0.cls) C.a0 a
 ok0:C.a0.ok
 pre:∀ (i b k:Nat) cs,C.g0[i]?=some (some (b,k))→σ.L[i]?=some (.box cs)→g[i]?=some (some (b,k))
 pk:∀ (i:Nat) cs,i<C.g0.length→σ.L[i]?=some (.box cs)→C.bx i
variable (P:Program) (ov:Ov)
def X7N (C:Cx0) (q:SD→Prop):Env→AH→Prop:=fun s a=>∃ σ g,SR C σ g s a∧q σ
structure X4E where
 n:SD→Prop
 e:Nat→SD→Prop
 r:SD→Prop
def X4E.post (C:Cx0) (Q:X4E):XAO:=⟨X7N C Q.n,fun i=>X7N C (Q.e i),X7N C Q.r⟩
def OD (C:Cx0) (ops:Array Oper) (l:List Oper) (σ:SD) (q:SD→Prop):Prop:=∀ g s a,SR C σ g s a→X31 P ov C.nt ops (fun a'=>X1C (·∈C.g0.cls) C.a0 a') l s a (X7N C q)
def CD (C:Cx0) (c:Code) (σ:SD) (Q:X4E):Prop:=∀ g s a,SR C σ g s a→Cx P ov C.nt c s a (Q.post C)
def FnD (f:FuncId) (args:List D) (L:List Ob) (Q:D→List Ob→Prop):Prop :=
 ∀ (M:Nat→Prop) (g:Gh) (a:AH) (vs:List Value),a.ok→(∀ k,M k→k<a.next)→g.length=L.length→g.cls.Nodup→(∀ k∈g.cls,¬ M k∧k<a.next) →
  (∀ (i:Nat) x o,g[i]?=some x→L[i]?=some o→ObR (MM M g) g a x o)→F2 (D1 (MM M g) g a) args vs →
  Fn P ov f vs a fun v a'=>∃ r L' g',DR (MM M g') g' a' r v∧g'.length=L'.length∧L.length≤L'.length∧g'.cls.Nodup∧(∀ k∈g'.cls,¬ M k∧k<a'.next∧(k∈g.cls∨a.next≤k)) ∧
   (∀ (i:Nat) x o,g'[i]?=some x→L'[i]?=some o→ObR (MM M g') g' a' x o)∧X1C (·∈g.cls) a a'∧a'.ok∧(∀ (i b k:Nat) cs,g[i]?=some (some (b,k))→L'[i]?=some (.box cs)→g'[i]?=some (some (b,k)))∧(∀ (i:Nat) cs,i<L.length→L'[i]?=some (.box cs)→∃ cs0,L[i]?=some (.box cs0))∧Q r L'
end
end Go.Vai
namespace Go.Vai
noncomputable section
theorem Gh.cls_cons (x:Option (Nat×Nat)) (g:Gh):Gh.cls (x::g)=(match x with | some y=>y.2::Gh.cls g | none=>Gh.cls g):=by
 cases x<;>rfl
theorem Gh.inj:∀ {g:Gh} {i j b b' k:Nat},g.cls.Nodup→g[i]?=some (some (b,k))→g[j]?=some (some (b',k))→i=j:=by
 intro g
 induction g with
 | nil=>intro i j b b' k _ h;simp at h
 | cons x g ih =>
  intro i j b b' k nd h1 h2
  rw [Gh.cls_cons]at nd
  have nd':(Gh.cls g).Nodup:=by
   cases x with
   | none=>exact nd
   | some y=>exact(List.nodup_cons.1 nd).2
  cases i with
  | zero =>
   cases j with
   | zero=>rfl
   | succ j =>
    simp only [List.getElem?_cons_zero,Option.some.injEq]at h1
    simp only [List.getElem?_cons_succ]at h2
    subst h1
    exact absurd (Gh.mem_cls.2 ⟨j,b',h2⟩) (List.nodup_cons.1 nd).1
  | succ i =>
   cases j with
   | zero =>
    simp only [List.getElem?_cons_zero,Option.some.injEq]at h2
    simp only [List.getElem?_cons_succ]at h1
    subst h2
    exact absurd (Gh.mem_cls.2 ⟨i,b,h1⟩) (List.nodup_cons.1 nd).1
   | succ j =>
    simp only [List.getElem?_cons_succ]at h1 h2
    rw [ih nd' h1 h2]
theorem Gh.cls_app (g h:Gh):Gh.cls (g++h)=g.cls++h.cls:=List.filterMap_append ..
theorem ObR.monoR {M M' W:Nat→Prop} {g g':Gh} {a a':AH} {x:Option (Nat×Nat)} {o:Ob} (h:ObR M g a x o) (K:X1C W a a') (hw:∀ k,W k→M k) (hm:∀ k,k<a.next→M' k→M k) (hg:g.On g')
  (hx:∀ b k,x=some (b,k)→¬ W k):ObR M' g' a' x o:=by
 cases o with
 | box cs =>
  obtain⟨b,k,vs,rfl,h2,h3⟩:=h
  exact⟨b,k,vs,rfl,K.blk _ _ h2 (hx b k rfl),h3.mono fun _ _ r=>DL.mono K hw hm hg r⟩
 | row e n cs =>
  obtain⟨hl,h⟩:=h
  refine⟨hl,?_⟩
  rcases h with h | ⟨b,k,vs,rfl,h2,h3⟩
  · exact .inl h
  · exact .inr ⟨b,k,vs,rfl,K.blk _ _ h2 (hx b k rfl),h3.mono fun _ _ r=>CR.mono r K hw hm⟩
 | dead=>exact h
section
variable {C:Cx0} {σ:SD} {g:Gh} {s:Env} {a:AH}
theorem SR.a0 (S:SR C σ g s a):C.a0.next≤a.next:=S.kp.next
theorem SR.mlt (S:SR C σ g s a) {k:Nat} (h:C.M k):k<a.next:=Nat.lt_of_lt_of_le (S.old k h) S.a0
theorem SR.mmlt (S:SR C σ g s a) {k:Nat} (h:MM C.M g k):k<a.next:=by
 rcases h with h | h
 · exact S.mlt h
 · exact(S.nm k h).2.1
theorem SR.heap (S:SR C σ g s a) {W:Nat→Prop} {E':X0m} {L':List Ob} {g':Gh} {s':Env} {a':AH} (K:X1C W a a') (hw:∀ k,W k→k∈g.cls) (ok':a'.ok) (len':g'.length=L'.length) (hl:g.length≤g'.length)
  (hc:∀ k∈g'.cls,k∈g.cls∨(a.next≤k∧k<a'.next)) (nd':g'.cls.Nodup) (env':∀ t d,lk E' t=some d→DR (MM C.M g') g' a' d (s' t))
  (obj':∀ (i:Nat) x o,g'[i]?=some x→L'[i]?=some o→ObR (MM C.M g') g' a' x o)
  (hb:∀ (i:Nat) cs',L'[i]?=some (.box cs')→g.length≤i∨((∃ cs,σ.L[i]?=some (.box cs))∧∀ x,g[i]?=some x→g'[i]?=some x)):SR C ⟨E',L'⟩ g' s' a':=by
 refine⟨ok',S.old,env',len',Nat.le_trans S.pl hl,obj',nd',?_,?_,S.ok0,?_,?_⟩
 ·
  intro k hk
  rcases hc k hk with h | ⟨h1,h2⟩
  ·
   obtain⟨q1,q2,q3⟩:=S.nm k h
   exact⟨q1,Nat.lt_of_lt_of_le q2 K.next,q3⟩
  · exact⟨fun m=>by have:=S.mlt m;omega,h2,.inr (Nat.le_trans S.a0 h1)⟩
 ·
  refine S.kp.trans K fun b B e w=>?_
  rcases(S.nm _ (hw _ w)).2.2 with h | h
  · exact h
  · have:=(S.ok0 b B e).2;omega
 ·
  intro i b k cs h1 h2
  rcases hb i cs h2 with h | ⟨⟨cs',h3⟩,h4⟩
  ·
   have:i<C.g0.length:=(List.getElem?_eq_some_iff.1 h1).1
   have:=S.pl;omega
  · exact h4 _ (S.pre i b k cs' h1 h3)
 ·
  intro i cs h1 h2
  rcases hb i cs h2 with h | ⟨⟨cs',h3⟩,_⟩
  · have:=S.pl;omega
  · exact S.pk i cs' h1 h3
theorem SR.heap' (S:SR C σ g s a) {W:Nat→Prop} {L':List Ob} {g':Gh} {a':AH} (K:X1C W a a') (hw:∀ k,W k→k∈g.cls) (ok':a'.ok) (hg:g.On g') (len':g'.length=L'.length)
  (hc:∀ k∈g'.cls,k∈g.cls∨(a.next≤k∧k<a'.next)) (nd':g'.cls.Nodup)
  (obj':∀ (i:Nat) x o,g'[i]?=some x→L'[i]?=some o→ObR (MM C.M g') g' a' x o)
  (hb:∀ (i:Nat) cs',L'[i]?=some (.box cs')→g.length≤i∨∃ cs,σ.L[i]?=some (.box cs)):SR C ⟨σ.E,L'⟩ g' s a':=by
 have hl:g.length≤g'.length:=by
  rcases Nat.eq_zero_or_pos g.length with h | h
  · omega
  ·
   have h1:g[g.length - 1]?=some g[g.length - 1]:=List.getElem?_eq_getElem (by omega)
   have:=(List.getElem?_eq_some_iff.1 (hg _ _ h1)).1
   omega
 refine S.heap K hw ok' len' hl hc nd' (fun t d e=>?_) obj' fun i cs h=>?_
 ·
  refine DR.mono K (fun k w=>.inr (hw k w)) (fun k hk m=>?_) hg (S.env t d e)
  rcases m with m | m
  · exact .inl m
  ·
   rcases hc k m with h | ⟨h,_⟩
   · exact .inr h
   · omega
 ·
  rcases hb i cs h with h | h
  · exact .inl h
  · exact .inr ⟨h,hg i⟩
theorem SR.mm (S:SR C σ g s a) {g':Gh} {a':AH} (hc:∀ k∈g'.cls,k∈g.cls∨(a.next≤k∧k<a'.next)):∀ k,k<a.next→MM C.M g' k→MM C.M g k:=fun k hk m=>by
 rcases m with m | m
 · exact .inl m
 ·
  rcases hc k m with h | ⟨h,_⟩
  · exact .inr h
  · omega
def pt (nt:Nat) (E:X0m) (dst:Option Nat) (d:D):X0m:=match dst with
 | some t=>bif Nat.blt t nt then(t,d)::E else E
 | none=>E
theorem SR.put (S:SR C σ g s a) {d:D} {v:Value} (h:DR (MM C.M g) g a d v) (dst:Option Nat):SR C ⟨pt C.nt σ.E dst d,σ.L⟩ g (XEz C.nt s dst v) a:=by
 refine⟨S.ok,S.old,fun t d' e=>?_,S.len,S.pl,S.obj,S.nd,S.nm,S.kp,S.ok0,S.pre,S.pk⟩
 cases dst with
 | none=>exact S.env t d' e
 | some u =>
  simp only [pt]at e
  by_cases hu:u<C.nt
  ·
   have:Nat.blt u C.nt=true:=by simpa using hu
   rw [this]at e
   simp only [cond_true]at e
   rw [X7a]
   rcases X1g e with⟨rfl,rfl⟩ | ⟨h1,h2⟩
   · rw [if_pos ⟨rfl,hu⟩];exact h
   · rw [if_neg fun q=>h1 q.1];exact S.env t d' h2
  ·
   have:Nat.blt u C.nt=false:=by
    cases hb:Nat.blt u C.nt with
    | false=>rfl
    | true=>exact absurd (by simpa using hb) hu
   rw [this]at e
   simp only [cond_false]at e
   rw [X7a,if_neg fun q=>hu q.2]
   exact S.env t d' e
theorem SR.less (S:SR C σ g s a) {E':X0m} (h:∀ t d,lk E' t=some d→lk σ.E t=some d):SR C ⟨E',σ.L⟩ g s a :=
 ⟨S.ok,S.old,fun t d e=>S.env t d (h t d e),S.len,S.pl,S.obj,S.nd,S.nm,S.kp,S.ok0,S.pre,S.pk⟩
theorem X1C.new {a:AH} (ok:a.ok) (l:List Value) (e:Nat):X1C (fun _=>False) a (a.new l e):=by
 refine⟨Nat.le_succ _,fun b B h _=>?_,fun _ _ h=>h⟩
 rw [XFH a (by have:=(ok b B h).1;omega)];exact h
theorem XBO {a:AH} (ok:a.ok) (l:List Value) (e:Nat):(a.new l e).ok:=by
 intro b B h
 rw [XFG]at h
 show b<a.next+1∧B.k<a.next+1
 split at h
 · rename_i hb;cases h;subst hb;exact⟨Nat.lt_succ_self _,Nat.lt_succ_self _⟩
 · have:=ok b B h;omega
theorem X6q (g:Gh) (x:Nat×Nat):Gh.cls (g++[some x])=g.cls++[x.2]:=by rw [Gh.cls_app];rfl
theorem X0y {α:Type} {l:List α} {x:α} {i:Nat} {y:α} (h:(l++[x])[i]?=some y):l[i]?=some y∨(i=l.length∧y=x):=by
 by_cases hi:i<l.length
 · rw [List.getElem?_append_left hi]at h;exact .inl h
 ·
  have hl:=(List.getElem?_eq_some_iff.1 h).1
  simp at hl
  have:i=l.length:=by omega
  subst this
  simp at h
  exact .inr ⟨rfl,h.symm⟩
theorem SR.newObj (S:SR C σ g s a) {l:List Value} {e:Nat} {o:Ob} (ho:ObR (MM C.M (g++[some (a.next,a.next)])) (g++[some (a.next,a.next)]) (a.new l e) (some (a.next,a.next)) o) :
  SR C ⟨σ.E,σ.L++[o]⟩ (g++[some (a.next,a.next)]) s (a.new l e):=by
 have hc:∀ k∈Gh.cls (g++[some (a.next,a.next)]),k∈g.cls∨(a.next≤k∧k<(a.new l e).next):=by
  intro k hk
  rw [X6q]at hk
  rcases List.mem_append.1 hk with h | h
  · exact .inl h
  · simp at h;subst h;exact .inr ⟨Nat.le_refl _,Nat.lt_succ_self _⟩
 refine S.heap' (X1C.new S.ok l e) (fun _ f=>f.elim) (XBO S.ok l e) (Gh.On.app _ _) (by simp [S.len]) hc ?_ ?_ ?_
 ·
  rw [X6q]
  refine List.nodup_append.2 ⟨S.nd,by simp,fun x hx y hy=>?_⟩
  simp at hy;subst hy
  have:=(S.nm x hx).2.1
  omega
 ·
  intro i x o' h1 h2
  rcases X0y h1 with h3 | ⟨h3,rfl⟩
  ·
   have hi:=(List.getElem?_eq_some_iff.1 h3).1
   rcases X0y h2 with h4 | ⟨h4,rfl⟩
   · exact(S.obj i x o' h3 h4).monoR (X1C.new S.ok l e) (fun _ f=>f.elim) (S.mm hc) (Gh.On.app _ _) (fun _ _ _ f=>f)
   · have:=S.len;omega
  ·
   rcases X0y h2 with h4 | ⟨h4,rfl⟩
   · have:=(List.getElem?_eq_some_iff.1 h4).1;have:=S.len;omega
   · exact ho
 ·
  intro i cs h
  rcases X0y h with h | ⟨h,_⟩
  · exact .inr ⟨cs,h⟩
  · exact .inl (by rw [h,S.len];exact Nat.le_refl _)
theorem X25 {a:AH} {b:Nat} {B B':AB} (hB:a.blk b=some B) (hk:B'.k=B.k):X1C (·=B.k) a { a with blk:=X14 a.blk b B' none }:=by
 refine⟨Nat.le_refl _,fun x X h w=>?_,fun _ _ h=>h⟩
 show X14 a.blk b B' none x=some X
 unfold X14
 have hx:x≠b:=by
  rintro rfl
  rw [hB]at h;cases h;exact w rfl
 rw [if_neg hx,h]
 simp only [hk]
 rw [if_neg w]
theorem X6r {a:AH} (ok:a.ok) {b:Nat} {B B':AB} (hB:a.blk b=some B) (hk:B'.k=B.k):AH.ok { a with blk:=X14 a.blk b B' none }:=by
 intro x X h
 rcases X56 h with⟨rfl,rfl⟩ | ⟨_,h2,_⟩
 · have:=ok _ _ hB;rw [hk];exact this
 · exact ok _ _ h2
theorem X2V {a:AH} {b:Nat} {B':AB}:(AH.blk { a with blk:=X14 a.blk b B' none }) b=some B':=by
 show X14 a.blk b B' none b=_
 unfold X14;rw [if_pos rfl]
theorem SR.write (S:SR C σ g s a) {i b k:Nat} {vs vs':List Value} {e:Nat} {o o':Ob} (hg:g[i]?=some (some (b,k))) (hL:σ.L[i]?=some o) (hB:a.blk b=some ⟨vs,k,true,e⟩)
  (ho:ObR (MM C.M g) g { a with blk:=X14 a.blk b ⟨vs',k,true,e⟩ none } (some (b,k)) o') (hbox:∀ cs,o'=.box cs→∃ cs,o=.box cs) :
  SR C ⟨σ.E,σ.L.set i o'⟩ g s { a with blk:=X14 a.blk b ⟨vs',k,true,e⟩ none }:=by
 have K:=X25 (B':=⟨vs',k,true,e⟩) hB rfl
 have hk:k∈g.cls:=Gh.mem_cls.2 ⟨i,b,hg⟩
 have hw:∀ x,x=(AB.mk vs k true e).k→x∈g.cls:=fun x q=>by subst q;exact hk
 refine S.heap' K hw (X6r S.ok hB rfl) (Gh.On.refl _) (by simp [S.len]) (fun k h=>.inl h) S.nd ?_ ?_
 ·
  intro j x o'' h1 h2
  by_cases hj:j=i
  ·
   subst hj
   have:j<σ.L.length:=(List.getElem?_eq_some_iff.1 hL).1
   rw [List.getElem?_set_self this]at h2
   cases h2
   rw [hg]at h1;cases h1
   exact ho
  ·
   rw [List.getElem?_set_ne (fun q=>hj q.symm)]at h2
   refine(S.obj j x o'' h1 h2).monoR K (fun x q=>.inr (hw x q)) (fun _ _ m=>m) (Gh.On.refl _) fun b' k' q w=>hj ?_
   subst q
   have w:k'=k:=w
   subst w
   exact Gh.inj S.nd h1 hg
 ·
  intro j cs h
  by_cases hj:j=i
  ·
   subst hj
   have:j<σ.L.length:=(List.getElem?_eq_some_iff.1 hL).1
   rw [List.getElem?_set_self this]at h
   obtain⟨cs',hh⟩:=hbox cs (by cases h;rfl)
   exact .inr ⟨cs',by rw [hL,hh]⟩
  ·
   rw [List.getElem?_set_ne (fun q=>hj q.symm)]at h
   exact .inr ⟨cs,h⟩
end
end
end Go.Vai

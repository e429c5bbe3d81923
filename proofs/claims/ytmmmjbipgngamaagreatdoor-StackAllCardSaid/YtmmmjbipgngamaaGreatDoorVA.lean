/-
  What is proved here: facts on binary tries that hold values by number, and on the relation between a plain heap of number two variables are kept beside the objects that a call is given (part VT of claims of the seat of the reads, writes and new blocks of a plain heap are matched by the machine's world (part B of an interp No conditions but those that the theorems state.
-/
import Derived.Calls
import Derived.Laws.World
import Derived.Laws.Sem
import Derived.Lib.ItoaNum
set_option linter.unusedVariables false
set_option linter.unusedSimpArgs false
namespace Go.Vai
inductive Tr (α:Type) where
 | leaf:Tr α
 | node (l:Tr α) (v:Option α) (r:Tr α):Tr α
namespace Tr
variable {α:Type}
noncomputable def get (t:Tr α):Nat→Option α :=
 Tr.rec (motive:=fun _=>Nat→Option α) (fun _=>none) (fun _ v _ gl gr i=>Nat.rec (motive:=fun _=>Option α) v (fun p _=>Nat.rec (motive:=fun _=>Option α) (gl (Nat.div p 2)) (fun _ _=>gr (Nat.div p 2)) (Nat.mod p 2)) i) t
def lf:Tr α→Tr α
 | leaf=>leaf
 | node l _ _=>l
def rt:Tr α→Tr α
 | leaf=>leaf
 | node _ _ r=>r
def vl:Tr α→Option α
 | leaf=>none
 | node _ v _=>v
noncomputable def set (k:Nat) (t:Tr α) (i:Nat) (x:α):Tr α :=
 Nat.rec (motive:=fun _=>Tr α→Nat→Tr α) (fun t _=>t)
  (fun _ ih t i=>Tr.rec (motive:=fun _=>Tr α)
   (Nat.rec (motive:=fun _=>Tr α) (node leaf (some x) leaf) (fun p _=>Nat.rec (motive:=fun _=>Tr α) (node (ih leaf (Nat.div p 2)) none leaf) (fun _ _=>node leaf none (ih leaf (Nat.div p 2))) (Nat.mod p 2)) i)
   (fun l v r _ _=>Nat.rec (motive:=fun _=>Tr α) (node l (some x) r) (fun p _=>Nat.rec (motive:=fun _=>Tr α) (node (ih l (Nat.div p 2)) v r) (fun _ _=>node l v (ih r (Nat.div p 2))) (Nat.mod p 2)) i) t) k t i
theorem X5O {β:Type} (a b:β) (n:Nat):(Nat.rec (motive:=fun _=>β) a (fun _ _=>b) n:β)=if n=0 then a else b:=by
 cases n<;>rfl
theorem X5P (t:Tr α) (i:Nat):t.get i=if i=0 then t.vl else if i % 2=1 then t.lf.get (i / 2)else t.rt.get (i / 2 - 1):=by
 cases t with
 | leaf=>show(none:Option α)=if i=0 then none else if i % 2=1 then none else none;split<;>(try split)<;>rfl
 | node l v r =>
  cases i with
  | zero=>rfl
  | succ p =>
   show(Nat.rec (motive:=fun _=>Option α) (l.get (Nat.div p 2)) (fun _ _=>r.get (Nat.div p 2)) (Nat.mod p 2):Option α)=_
   rw [X5O]
   have e1:Nat.mod p 2=p % 2:=rfl
   have e2:Nat.div p 2=p / 2:=rfl
   rw [e1,e2,if_neg (by omega:¬ p+1=0)]
   by_cases h:p % 2=0
   · rw [if_pos h,if_pos (by omega)];show l.get _=l.get _;congr 1;omega
   · rw [if_neg h,if_neg (by omega)];show r.get _=r.get _;congr 1;omega
theorem XEe (k:Nat) (t:Tr α) (i:Nat) (x:α):set (k+1) t i x =
  if i=0 then node t.lf (some x) t.rt else if i % 2=1 then node (set k t.lf (i / 2) x) t.vl t.rt else node t.lf t.vl (set k t.rt (i / 2 - 1) x):=by
 cases t with
 | leaf =>
  cases i with
  | zero=>rfl
  | succ p =>
   show(Nat.rec (motive:=fun _=>Tr α) (node (set k leaf (Nat.div p 2) x) none leaf) (fun _ _=>node leaf none (set k leaf (Nat.div p 2) x)) (Nat.mod p 2):Tr α)=_
   rw [X5O]
   have e1:Nat.mod p 2=p % 2:=rfl
   have e2:Nat.div p 2=p / 2:=rfl
   rw [e1,e2,if_neg (by omega:¬ p+1=0)]
   by_cases h:p % 2=0
   · rw [if_pos h,if_pos (by omega),show(p+1) / 2=p / 2 by omega];rfl
   · rw [if_neg h,if_neg (by omega),show(p+1) / 2 - 1=p / 2 by omega];rfl
 | node l v r =>
  cases i with
  | zero=>rfl
  | succ p =>
   show(Nat.rec (motive:=fun _=>Tr α) (node (set k l (Nat.div p 2) x) v r) (fun _ _=>node l v (set k r (Nat.div p 2) x)) (Nat.mod p 2):Tr α)=_
   rw [X5O]
   have e1:Nat.mod p 2=p % 2:=rfl
   have e2:Nat.div p 2=p / 2:=rfl
   rw [e1,e2,if_neg (by omega:¬ p+1=0)]
   by_cases h:p % 2=0
   · rw [if_pos h,if_pos (by omega),show(p+1) / 2=p / 2 by omega];rfl
   · rw [if_neg h,if_neg (by omega),show(p+1) / 2 - 1=p / 2 by omega];rfl
theorem X7n (k:Nat):∀ (t:Tr α) (i:Nat) (x:α),i+1<2 ^ k→(set k t i x).get i=some x:=by
 induction k with
 | zero=>intro t i x h;simp at h
 | succ k ih =>
  intro t i x h
  rw [XEe]
  have hp:2 ^ (k+1)=2*2 ^ k:=by rw [Nat.pow_succ];omega
  by_cases h0:i=0
  · rw [if_pos h0,X5P,if_pos h0];rfl
  ·
   by_cases h1:i % 2=1
   · rw [if_neg h0,if_pos h1,X5P,if_neg h0,if_pos h1];exact ih _ _ _ (by omega)
   · rw [if_neg h0,if_neg h1,X5P,if_neg h0,if_neg h1];exact ih _ _ _ (by omega)
theorem X78 (k:Nat):∀ (t:Tr α) (i j:Nat) (x:α),j≠i→(set k t i x).get j=t.get j:=by
 induction k with
 | zero=>intro t i j x h;rfl
 | succ k ih =>
  intro t i j x h
  rw [XEe,X5P t j]
  by_cases h0:i=0
  ·
   have hj:¬ j=0:=by omega
   rw [if_pos h0,X5P,if_neg hj,if_neg hj];rfl
  ·
   by_cases h1:i % 2=1
   ·
    rw [if_neg h0,if_pos h1,X5P]
    by_cases j0:j=0
    · rw [if_pos j0,if_pos j0];rfl
    ·
     rw [if_neg j0,if_neg j0]
     by_cases j1:j % 2=1
     · rw [if_pos j1,if_pos j1];exact ih _ _ _ _ (by omega)
     · rw [if_neg j1,if_neg j1];rfl
   ·
    rw [if_neg h0,if_neg h1,X5P]
    by_cases j0:j=0
    · rw [if_pos j0,if_pos j0];rfl
    ·
     rw [if_neg j0,if_neg j0]
     by_cases j1:j % 2=1
     · rw [if_pos j1,if_pos j1];rfl
     · rw [if_neg j1,if_neg j1];exact ih _ _ _ _ (by omega)
end Tr
noncomputable def Tr.put {α:Type} (t:Tr α) (i:Nat) (x:α):Tr α:=t.set (Nat.succ (Nat.log2 (Nat.succ i))) i x
theorem Tr.get_put_same {α:Type} {t:Tr α} {i:Nat} {x:α} (_h:0≤i):(t.put i x).get i=some x:=X7n _ t i x (Nat.lt_log2_self (n:=i+1))
theorem Tr.get_put_other {α:Type} {t:Tr α} {i j:Nat} {x:α} (h:j≠i):(t.put i x).get j=t.get j:=X78 _ t i j x h
def X03:Value→Bool
 | .bool _=>true
 | .int _ _=>true
 | .float _ _=>true
 | .complex _ _ _=>true
 | .string _=>true
 | .pointer none=>true
 | .slice none 0 0=>true
 | .map none=>true
 | .chan none=>true
 | .nilFunc=>true
 | .nilIface=>true
 | .func (.func _) first captured=>first.isEmpty && captured.isEmpty
 | .iface _ (.int _ _)=>true
 | .iface _ (.string _)=>true
 | _=>false
structure Img where
 g:Nat
 o:Nat
 m:Nat
 e:Nat
 z:Option (Obj×Nat)
abbrev Rho:=Nat→Option Img
inductive F2 {α β:Type} (R:α→β→Prop):List α→List β→Prop
 | nil:F2 R [] []
 | cons {a b l m} (h:R a b) (t:F2 R l m):F2 R (a::l) (b::m)
namespace F2
variable {α β:Type} {R S:α→β→Prop}
theorem mono {l:List α} {m:List β} (h:F2 R l m) (hr:∀ a b,R a b→S a b):F2 S l m:=by
 induction h with
 | nil=>exact .nil
 | cons h t ih=>exact .cons (hr _ _ h) ih
theorem length {l:List α} {m:List β} (h:F2 R l m):l.length=m.length:=by
 induction h with
 | nil=>rfl
 | cons h t ih=>simp [ih]
theorem append {l₁ l₂:List α} {m₁ m₂:List β} (h:F2 R l₁ m₁) (k:F2 R l₂ m₂):F2 R (l₁++l₂) (m₁++m₂):=by
 induction h with
 | nil=>exact k
 | cons h t ih=>exact .cons h ih
theorem get {l:List α} {m:List β} (h:F2 R l m):∀ (i:Nat) (a:α),l[i]?=some a→∃ b,m[i]?=some b∧R a b:=by
 induction h with
 | nil=>intro i a e;simp at e
 | cons h t ih =>
  intro i a e
  cases i with
  | zero=>simp at e;subst e;exact⟨_,by simp,h⟩
  | succ i=>simpa using ih i a (by simpa using e)
theorem drop {l:List α} {m:List β} (h:F2 R l m):∀ n,F2 R (l.drop n) (m.drop n):=by
 induction h with
 | nil=>intro n;simp;exact .nil
 | cons h t ih =>
  intro n
  cases n with
  | zero=>exact .cons h t
  | succ n=>simpa using ih n
theorem take {l:List α} {m:List β} (h:F2 R l m):∀ n,F2 R (l.take n) (m.take n):=by
 induction h with
 | nil=>intro n;simp;exact .nil
 | cons h t ih =>
  intro n
  cases n with
  | zero=>exact .nil
  | succ n=>simpa using .cons h (ih n)
theorem of_get {l:List α} {m:List β} (hl:l.length=m.length) (h:∀ (i:Nat) (a:α) (b:β),l[i]?=some a→m[i]?=some b→R a b):F2 R l m:=by
 induction l generalizing m with
 | nil=>cases m with
  | nil=>exact .nil
  | cons b m=>simp at hl
 | cons a l ih=>cases m with
  | nil=>simp at hl
  | cons b m=>exact .cons (h 0 a b rfl rfl) (ih (by simpa using hl) fun i a b ha hb=>h (i+1) a b (by simpa using ha) (by simpa using hb))
theorem refl {R:α→α→Prop} (l:List α) (h:∀ a∈l,R a a):F2 R l l:=by
 induction l with
 | nil=>exact .nil
 | cons a l ih=>exact .cons (h a (by simp)) (ih fun b hb=>h b (by simp [hb]))
theorem eq {l m:List α} (h:F2 (fun a b=>a=b) l m):l=m:=by
 induction h with
 | nil=>rfl
 | cons h t ih=>rw [h,ih]
theorem set {l:List α} {m:List β} (h:F2 R l m):∀ (i:Nat) (a:α) (b:β),R a b→F2 R (l.set i a) (m.set i b):=by
 induction h with
 | nil=>intro i a b r;simp;exact .nil
 | cons h t ih =>
  intro i a b r
  cases i with
  | zero=>exact .cons r t
  | succ i=>exact .cons h (ih i a b r)
end F2
inductive X9y (ρ:Rho):Value→Value→Prop
 | plain {v:Value} (h:X03 v=true):X9y ρ v v
 | ptr {b i:Nat} {I:Img} (h:ρ b=some I):X9y ρ (.pointer (some ⟨b,i,none⟩)) (.pointer (some ⟨I.g,I.o+i,none⟩))
 | yld {b:Nat} {I:Img} (h:ρ b=some I):X9y ρ (.func (.yield b) #[] #[]) (.func (.yield I.g) #[] #[])
inductive X13 (ρ:Rho):Value→Value→Prop
 | plain {v:Value} (h:X03 v=true):X13 ρ v v
 | ptr {b i:Nat} {I:Img} (h:ρ b=some I):X13 ρ (.pointer (some ⟨b,i,none⟩)) (.pointer (some ⟨I.g,I.o+i,none⟩))
 | slice {b i n c c':Nat} {I:Img} (h:ρ b=some I) (hn:n≤c) (hc:c≤c') (hm:I.o+i+c'*I.e≤I.m):X13 ρ (.slice (some ⟨b,i,none⟩) n c) (.slice (some ⟨I.g,I.o+i,none⟩) n c')
 | sliceE {a a':Addr}:X13 ρ (.slice (some a) 0 0) (.slice (some a') 0 0)
 | func {f:FuncId} {first first' cap cap':Array Value} (h1:F2 (X9y ρ) first.toList first'.toList) (h2:F2 (X9y ρ) cap.toList cap'.toList):X13 ρ (.func (.func f) first cap) (.func (.func f) first' cap')
 | yld {b:Nat} {I:Img} (h:ρ b=some I):X13 ρ (.func (.yield b) #[] #[]) (.func (.yield I.g) #[] #[])
inductive X62 (ρ:Rho):Value→Value→Prop
 | one {v v':Value} (h:X13 ρ v v'):X62 ρ v v'
 | agg {cs cs':Array Value} (h:F2 (X13 ρ) cs.toList cs'.toList):X62 ρ (.agg cs) (.agg cs')
inductive X0N (ρ:Rho):Value→Value→Prop
 | one {v v':Value} (h:X62 ρ v v'):X0N ρ v v'
 | tuple {cs cs':Array Value} (h:F2 (X62 ρ) cs.toList cs'.toList):X0N ρ (.tuple cs) (.tuple cs')
def Ext (ρ ρ':Rho):Prop:=∀ b I,ρ b=some I→ρ' b=some I
theorem Ext.refl (ρ:Rho):Ext ρ ρ:=fun _ _ h=>h
theorem Ext.trans {ρ ρ₁ ρ₂:Rho} (h:Ext ρ ρ₁) (k:Ext ρ₁ ρ₂):Ext ρ ρ₂:=fun b I e=>k b I (h b I e)
theorem X9y.ext {ρ ρ':Rho} (h:Ext ρ ρ') {v v':Value} (r:X9y ρ v v'):X9y ρ' v v':=by
 cases r with
 | plain h=>exact .plain h
 | ptr k=>exact .ptr (h _ _ k)
 | yld k=>exact .yld (h _ _ k)
theorem X13.ext {ρ ρ':Rho} (h:Ext ρ ρ') {v v':Value} (r:X13 ρ v v'):X13 ρ' v v':=by
 cases r with
 | plain h=>exact .plain h
 | ptr k=>exact .ptr (h _ _ k)
 | slice k hn hc hm=>exact .slice (h _ _ k) hn hc hm
 | sliceE=>exact .sliceE
 | func h1 h2=>exact .func (h1.mono fun _ _=>X9y.ext h) (h2.mono fun _ _=>X9y.ext h)
 | yld k=>exact .yld (h _ _ k)
theorem X62.ext {ρ ρ':Rho} (h:Ext ρ ρ') {v v':Value} (r:X62 ρ v v'):X62 ρ' v v':=by
 cases r with
 | one k=>exact .one (k.ext h)
 | agg k=>exact .agg (k.mono fun _ _=>X13.ext h)
theorem X0N.ext {ρ ρ':Rho} (h:Ext ρ ρ') {v v':Value} (r:X0N ρ v v'):X0N ρ' v v':=by
 cases r with
 | one k=>exact .one (k.ext h)
 | tuple k=>exact .tuple (k.mono fun _ _=>X62.ext h)
theorem X9y.toL {ρ:Rho} {v v':Value} (r:X9y ρ v v'):X13 ρ v v':=by
 cases r with
 | plain h=>exact .plain h
 | ptr k=>exact .ptr k
 | yld k=>exact .yld k
theorem X13.eq_of_plain {ρ:Rho} {v v':Value} (r:X13 ρ v v') (h:X03 v=true):v'=v:=by
 cases r with
 | plain _=>rfl
 | ptr k=>simp [X03]at h
 | slice k hn hc hm=>simp [X03]at h
 | sliceE=>simp [X03]at h
 | func h1 h2 =>
  rename_i f first first' cap cap'
  simp [X03]at h
  obtain⟨e1,e2⟩:=h
  subst e1 e2
  have x1:first'=#[]:=by
   have:=h1.length;simp at this;exact Array.size_eq_zero_iff.1 this.symm
  have x2:cap'=#[]:=by
   have:=h2.length;simp at this;exact Array.size_eq_zero_iff.1 this.symm
  rw [x1,x2]
 | yld k=>simp [X03]at h
theorem X0N.eq_of_plain {ρ:Rho} {v v':Value} (r:X0N ρ v v') (h:X03 v=true):v'=v:=by
 cases r with
 | one k=>cases k with
  | one k=>exact k.eq_of_plain h
  | agg k=>cases h
 | tuple k=>cases h
theorem X0N.plain {ρ:Rho} {v:Value} (h:X03 v=true):X0N ρ v v:=.one (.one (.plain h))
def X01 (v:Value):Bool:=match v with
 | .agg cs=>cs.toList.all X03
 | v=>X03 v
theorem F2.eq_of_plain {ρ:Rho} {l m:List Value} (h:F2 (X13 ρ) l m) (hp:l.all X03=true):m=l:=by
 induction h with
 | nil=>rfl
 | cons h t ih =>
  simp only [List.all_cons,Bool.and_eq_true]at hp
  rw [h.eq_of_plain hp.1,ih hp.2]
theorem X0N.eq_of_cellsPlain {ρ:Rho} {v v':Value} (r:X0N ρ v v') (h:X01 v=true):v'=v:=by
 cases r with
 | one k=>cases k with
  | one k =>
   refine k.eq_of_plain ?_
   revert h
   cases v<;>simp [X01,X03]<;>try exact id
   cases k;contradiction
  | agg k =>
   rename_i cs cs'
   have:=k.eq_of_plain h
   congr 1
   exact Array.toList_inj.1 this
 | tuple k=>cases h
structure Blk where
 cells:Tr Value
 size:Nat
 esz:Nat
 cls:Nat
 ro:Bool
structure Cls where
 top:Nat
 minv:Nat
structure XCD where
 state:LoopState
 pend:Option Code
 tm:Tr Value
 nt:Nat
 params:Array Tmp
 assign:Code
 body:Code
inductive XDr where
 | loop (L:XCD)
 | iter (s:ByteArray) (pos:Nat)
structure Heap where
 blks:Tr Blk
 next:Nat
 cls:Tr Cls
 objs:Tr XDr
end Go.Vai
namespace Go.Vai
def TG (k:Nat):Prop:=k=2∨k=3
def TW (w:World):Prop :=
 (∃ t f,w.heap[2]?=some (.cells (Lib.pow10Tab.map fun z=>Value.int .u64 z).toArray t f))∧∃ m,w.cell? ⟨3,0,none⟩=some (.int .i64 m)
theorem XDs {w:World} {a:Addr} {v:Value} (h:w.cell? a=some v):∃ c t f,w.heap[a.block]?=some (.cells c t f):=by
 unfold World.cell? at h
 split at h
 · rename_i c t f e;exact⟨c,t,f,e⟩
 · cases h
theorem TW.at {w:World} (h:TW w) {k:Nat} (hk:TG k):∃ c t f,w.heap[k]?=some (.cells c t f):=by
 rcases hk with rfl | rfl
 · obtain⟨t,f,e⟩:=h.1;exact⟨_,t,f,e⟩
 · obtain⟨m,e⟩:=h.2;exact XDs e
theorem TW.lt {w:World} (h:TW w) {k:Nat} (hk:TG k):k<w.heap.size:=by
 obtain⟨c,t,f,e⟩:=h.at hk
 exact(Array.getElem?_eq_some_iff.1 e).1
theorem TW.go {w w':World} (h:TW w) (hk:∀ k,TG k→w'.heap[k]?=w.heap[k]?):TW w':=by
 have e:∀ a:Addr,TG a.block→w'.cell? a=w.cell? a:=fun a ha=>by unfold World.cell?;rw [hk _ ha]
 exact⟨by rw [hk _ (.inl rfl)];exact h.1,by rw [e _ (.inr rfl)];exact h.2⟩
end Go.Vai
namespace Go.Vai
noncomputable section
def Heap.rd (h:Heap) (b i:Nat):Option Value :=
 match h.blks.get b with
 | none=>none
 | some B =>
  match h.cls.get B.cls with
  | none=>none
  | some C =>
   match Nat.ble C.minv b && Nat.blt i B.size with
   | true=>B.cells.get i
   | false=>none
def Heap.wr (h:Heap) (b i:Nat) (v:Value):Option Heap :=
 match h.blks.get b with
 | none=>none
 | some B =>
  match h.cls.get B.cls with
  | none=>none
  | some C =>
   match Nat.beq b C.top && Nat.ble C.minv b && Nat.blt i B.size && Nat.ble 0 i && !B.ro with
   | true=>some { blks:=h.blks.put b { B with cells:=B.cells.put i v },next:=h.next,cls:=h.cls.put B.cls { C with minv:=b },objs:=h.objs }
   | false=>none
def Heap.new (h:Heap) (cells:Tr Value) (size esz:Nat):Option (Nat×Heap) :=
 match Nat.ble 0 h.next with
 | true=>some (h.next,{ blks:=h.blks.put h.next ⟨cells,size,esz,h.next,false⟩,next:=h.next+1,cls:=h.cls.put h.next ⟨h.next,h.next⟩,objs:=h.objs })
 | false=>none
def Heap.grow (h:Heap) (b:Nat) (atEnd:Bool) (cells:Tr Value) (size esz:Nat):Option (Nat×Heap) :=
 match h.blks.get b with
 | none=>none
 | some B =>
  match h.cls.get B.cls with
  | none=>none
  | some C =>
   match Nat.ble 0 h.next && !B.ro with
   | true=>some (h.next,{ blks:=h.blks.put h.next ⟨cells,size,esz,B.cls,false⟩,next:=h.next+1,cls:=h.cls.put B.cls ⟨h.next,match atEnd && Nat.beq b C.top with | true=>C.minv | false=>h.next⟩,objs:=h.objs })
   | false=>none
def Heap.rdL (h:Heap) (b:Nat):Nat→Nat→Option (List Value)
 | _,0=>some []
 | i,n+1=>match h.rd b i with
  | none=>none
  | some v=>match h.rdL b (i+1) n with
   | none=>none
   | some vs=>some (v::vs)
def Heap.wrL (h:Heap) (b:Nat):Nat→List Value→Option Heap
 | _,[]=>some h
 | i,v::vs=>match h.wr b i v with
  | none=>none
  | some h'=>Heap.wrL h' b (i+1) vs
def X2z:Nat→Tr Value→List Value→Tr Value
 | _,t,[]=>t
 | i,t,v::vs=>X2z (i+1) (t.put i v) vs
theorem X2I:∀ (vs:List Value) (i:Nat) (t:Tr Value) (j:Nat),0≤i+vs.length→(X2z i t vs).get j=if i≤j∧j<i+vs.length then vs[j - i]? else t.get j:=by
 intro vs
 induction vs with
 | nil =>
  intro i t j h
  have:¬ (i≤j∧j<i+([]:List Value).length):=by simp
  rw [if_neg this];rfl
 | cons v vs ih =>
  intro i t j h
  simp only [List.length_cons]at h ⊢
  rw [X2z,ih (i+1) (t.put i v) j (by omega)]
  by_cases h1:i+1≤j∧j<i+1+vs.length
  ·
   rw [if_pos h1,if_pos (by omega)]
   have:j - i=(j - (i+1))+1:=by omega
   rw [this,List.getElem?_cons_succ]
  ·
   rw [if_neg h1]
   by_cases h2:j=i
   ·
    subst h2
    rw [if_pos (by omega),Tr.get_put_same (by omega)];simp
   · rw [if_neg (by omega),Tr.get_put_other h2]
def X5Q (ρ:Rho) (tm:Tr Value) (tmps:Array Value):Prop:=∀ t,X0N ρ ((tm.get t).getD undef) (tmps.getD t undef)
theorem X5Q.ext {ρ ρ':Rho} {tm:Tr Value} {tmps:Array Value} (h:X5Q ρ tm tmps) (e:Ext ρ ρ'):X5Q ρ' tm tmps:=fun t=>(h t).ext e
def XH5 (ρ:Rho) (w:World) (g:Nat) (L:XCD):Prop :=
 ∃ fn tmps D,w.heap[g]?=some (.loop { state:=L.state,pending:=L.pend,fn:=fn,tmps:=tmps,params:=L.params,assign:=L.assign,body:=L.body,defers:=D })∧X5Q ρ L.tm tmps∧tmps.size=L.nt∧L.nt<1000000
def X7o (ρ:Rho) (w:World) (g:Nat):XDr→Prop
 | .loop L=>XH5 ρ w g L
 | .iter s pos=>w.heap[g]?=some (.stringIter s pos)
def X1l:Obj→Bool
 | .cells _ _ _=>false
 | _=>true
theorem X7o.go {ρ ρ':Rho} {w w':World} {g:Nat} {L:XDr} (h:X7o ρ w g L) (e:Ext ρ ρ') (hw:∀ o,X1l o=true→w.heap[g]?=some o→w'.heap[g]?=some o):X7o ρ' w' g L:=by
 cases L with
 | loop L =>
  obtain⟨fn,tmps,D,h1,h2,h3,h4⟩:=h
  exact⟨fn,tmps,D,hw _ rfl h1,h2.ext e,h3,h4⟩
 | iter s pos=>exact hw _ rfl h
theorem X7o.obj {ρ:Rho} {w:World} {g:Nat} {L:XDr} (h:X7o ρ w g L):∃ o,X1l o=true∧w.heap[g]?=some o:=by
 cases L with
 | loop L=>obtain⟨fn,tmps,D,h1,_⟩:=h;exact⟨_,rfl,h1⟩
 | iter s pos=>exact⟨_,rfl,h⟩
structure X0f (ρ:Rho) (h:Heap) (w:World):Prop where
 nx:TW w∧∀ b I,ρ b=some I→¬ TG I.g
 dom:∀ b I,ρ b=some I→∃ B C,h.blks.get b=some B∧h.cls.get B.cls=some C∧b<h.next∧B.esz=I.e∧B.cls<h.next∧b≤C.top∧C.top<h.next∧I.o+B.size≤I.m
 img:∀ b I B,ρ b=some I→h.blks.get b=some B→I.g<w.heap.size∧(∀ j,I.o≤j→j<I.m→∃ v,w.cell? ⟨I.g,j,none⟩=some v)∧(B.ro=false→∀ j,I.o≤j→j<I.m→w.frozen? ⟨I.g,j,none⟩=false)
 val:∀ b I B C,ρ b=some I→h.blks.get b=some B→h.cls.get B.cls=some C→C.minv≤b→∀ i v,i<B.size→B.cells.get i=some v→∃ v',w.cell? ⟨I.g,I.o+i,none⟩=some v'∧X13 ρ v v'
 one:∀ b₁ b₂ I₁ I₂ B₁ B₂,ρ b₁=some I₁→ρ b₂=some I₂→I₁.g=I₂.g→h.blks.get b₁=some B₁→h.blks.get b₂=some B₂→B₁.cls=B₂.cls
 fin:∀ b I B C J D,ρ b=some I→h.blks.get b=some B→h.cls.get B.cls=some C→C.minv≤b→ρ C.top=some J→J.g=I.g→h.blks.get C.top=some D→I.o+B.size≤J.o+D.size
 glob:∀ g B,h.blks.get g=some B→B.ro=true→∃ I,ρ g=some I∧I.g=g∧I.o=0
 lp:∀ b I L,ρ b=some I→h.objs.get b=some L→X7o ρ w I.g L
 ld:∀ b L,h.objs.get b=some L→b<h.next
 li:∀ b b' I I' L L',ρ b=some I→ρ b'=some I'→h.objs.get b=some L→h.objs.get b'=some L'→I.g=I'.g→b=b'
 lz:∀ b I L,ρ b=some I→h.objs.get b=some L→I.o=0
 st:∀ b I o T,ρ b=some I→I.z=some (o,T)→T<h.next∧ρ T=none∧X1l o=false∧∀ B C,h.blks.get b=some B→h.cls.get B.cls=some C→C.top=T→w.heap[I.g]?=some o
structure Fr (ρ:Rho) (w w':World):Prop where
 os:w'.os=w.os
 tape:w'.tape=w.tape
 output:w'.output=w.output
 size:w.heap.size≤w'.heap.size
 keep:∀ k,k<w.heap.size→(∀ b I,ρ b=some I→I.g≠k)→w'.heap[k]?=w.heap[k]?
structure X2H (ρ ρ':Rho) (w:World):Prop where
 ext:Ext ρ ρ'
 new:∀ b I,ρ' b=some I→w.heap.size≤I.g∨∃ b₀ I₀,ρ b₀=some I₀∧I₀.g=I.g
 zn:∀ b I,ρ' b=some I→I.z≠none→ρ b=some I
theorem Fr.refl (ρ:Rho) (w:World):Fr ρ w w:=⟨rfl,rfl,rfl,Nat.le_refl _,fun _ _ _=>rfl⟩
theorem X2H.refl (ρ:Rho) (w:World):X2H ρ ρ w:=⟨Ext.refl ρ,fun b I e=>.inr ⟨b,I,e,rfl⟩,fun _ _ e _=>e⟩
theorem Fr.trans {ρ ρ₁:Rho} {w w₁ w₂:World} (h:Fr ρ w w₁) (g:X2H ρ ρ₁ w) (k:Fr ρ₁ w₁ w₂):Fr ρ w w₂ :=
 ⟨k.os.trans h.os,k.tape.trans h.tape,k.output.trans h.output,Nat.le_trans h.size k.size,fun i hi hn =>
  (k.keep i (Nat.lt_of_lt_of_le hi h.size) fun b I e hg=>by
   rcases g.new b I e with hb | ⟨b₀,I₀,e₀,eg⟩
   · omega
   · exact hn b₀ I₀ e₀ (eg.trans hg)).trans (h.keep i hi hn)⟩
theorem X2H.trans {ρ ρ₁ ρ₂:Rho} {w w₁:World} (g:X2H ρ ρ₁ w) (hs:w.heap.size≤w₁.heap.size) (k:X2H ρ₁ ρ₂ w₁):X2H ρ ρ₂ w :=
 ⟨g.ext.trans k.ext,fun b I e=>by
  rcases k.new b I e with hb | ⟨b₀,I₀,e₀,eg⟩
  · exact .inl (Nat.le_trans hs hb)
  ·
   rcases g.new b₀ I₀ e₀ with hb | ⟨b₁,I₁,e₁,eg₁⟩
   · exact .inl (eg ▸ hb)
   · exact .inr ⟨b₁,I₁,e₁,eg₁.trans eg⟩,fun b I e n=>g.zn b I (k.zn b I e n) n⟩
theorem Fr.drew {ρ:Rho} {w w':World} (h:Fr ρ w w'):Fr ρ w w'.drew:=⟨h.os,h.tape,h.output,h.size,h.keep⟩
theorem X0f.drew {ρ:Rho} {h:Heap} {w:World} (H:X0f ρ h w):X0f ρ h w.drew:=⟨⟨H.nx.1.go fun _ _=>rfl,H.nx.2⟩,H.dom,H.img,H.val,H.one,H.fin,H.glob,fun b I L e1 e2=>(H.lp b I L e1 e2).go (Ext.refl ρ) fun _ _ h=>h,H.ld,H.li,H.lz,H.st⟩
theorem XDt {h:Heap} {b i:Nat} {v:Value} (e:h.rd b i=some v):∃ B C,h.blks.get b=some B∧h.cls.get B.cls=some C∧C.minv≤b∧i<B.size∧B.cells.get i=some v:=by
 unfold Heap.rd at e
 split at e
 · cases e
 ·
  rename_i B hB
  split at e
  · cases e
  ·
   rename_i C hC
   split at e
   ·
    rename_i hc
    simp only [Bool.and_eq_true,Nat.ble_eq,Nat.blt_eq]at hc
    exact⟨B,C,hB,hC,hc.1,hc.2,e⟩
   · cases e
theorem X9z {ρ:Rho} {h:Heap} {w:World} (H:X0f ρ h w) {b i:Nat} {v:Value} {I:Img} (e:h.rd b i=some v) (hb:ρ b=some I) :
  ∃ v',w.cell? ⟨I.g,I.o+i,none⟩=some v'∧X13 ρ v v':=by
 obtain⟨B,C,hB,hC,hm,hi,hv⟩:=XDt e
 exact H.val b I B C hb hB hC hm i v hi hv
theorem X2C {ρ:Rho} {h:Heap} {w:World} (H:X0f ρ h w) {b:Nat} {I:Img} (hb:ρ b=some I):∀ (n i:Nat) (vs:List Value),h.rdL b i n=some vs →
  ∃ vs':List Value,vs'.length=n∧(∀ j v,vs'[j]?=some v→w.cell? ⟨I.g,I.o+i+j,none⟩=some v)∧F2 (X13 ρ) vs vs':=by
 intro n
 induction n with
 | zero =>
  intro i vs e
  simp only [Heap.rdL,Option.some.injEq]at e
  subst e
  exact⟨[],rfl,by simp,.nil⟩
 | succ n ih =>
  intro i vs e
  simp only [Heap.rdL]at e
  split at e
  · cases e
  ·
   rename_i v hv
   split at e
   · cases e
   ·
    rename_i vs₁ h₁
    simp only [Option.some.injEq]at e
    subst e
    obtain⟨v',hc,hr⟩:=X9z H hv hb
    obtain⟨vs',hl,hcs,hf⟩:=ih (i+1) vs₁ h₁
    refine⟨v'::vs',by simp [hl],?_,.cons hr hf⟩
    intro j u hj
    cases j with
    | zero=>simp at hj;subst hj;exact hc
    | succ j =>
     have:=hcs j u (by simpa using hj)
     rw [show I.o+i+(j+1)=I.o+(i+1)+j from by omega];exact this
theorem X27 {h:Heap} {b:Nat}:∀ (n i:Nat) (vs:List Value),h.rdL b i n=some vs→vs.length=n:=by
 intro n
 induction n with
 | zero=>intro i vs e;simp only [Heap.rdL,Option.some.injEq]at e;subst e;rfl
 | succ n ih =>
  intro i vs e
  simp only [Heap.rdL]at e
  split at e
  · cases e
  ·
   split at e
   · cases e
   ·
    rename_i vs₁ h₁
    simp only [Option.some.injEq]at e
    subst e
    simp [ih _ _ h₁]
def oneC:Value→Bool
 | .agg _=>false
 | .tuple _=>false
 | _=>true
theorem X13.oneC {ρ:Rho} {v v':Value} (r:X13 ρ v v'):oneC v'=true:=by
 cases r with
 | plain h=>cases v<;>first | rfl | simp [X03]at h
 | ptr=>rfl
 | slice=>rfl
 | sliceE=>rfl
 | func=>rfl
 | yld=>rfl
theorem cell?_set_any (w:World) (a b:Addr) (v:Value) (h:∃ u,w.cell? b=some u):∃ u,(w.setCell a v).cell? b=some u:=by
 by_cases e:a=b
 ·
  subst e
  obtain⟨u,hu⟩:=h
  exact⟨v,World.cell?_setCell_same w a v hu⟩
 · rw [World.cell?_setCell_other w a b v e];exact h
theorem X5R {w:World} {a:Addr} {v:Value} {g:Nat} {o:Obj} (n:X1l o=true) (h:w.heap[g]?=some o):(w.setCell a v).heap[g]?=some o:=by
 simp only [World.setCell,Array.getElem?_modify]
 split
 · rw [h];cases o<;>first | rfl | cases n
 · exact h
theorem X7p (w:World) (a:Addr) (u:Value) {k:Nat} (h:k≠a.block):(w.setCell a u).heap[k]?=w.heap[k]?:=by
 show(w.heap.modify a.block _)[k]?=w.heap[k]?
 rw [Array.getElem?_modify,if_neg (fun e=>h e.symm)]
theorem XDu {ρ:Rho} {h h':Heap} {w:World} (H:X0f ρ h w) {b i:Nat} {v v':Value} {I:Img} (e:h.wr b i v=some h') (hb:ρ b=some I) (hv:X13 ρ v v') :
  X0f ρ h' (w.setCell ⟨I.g,I.o+i,none⟩ v')∧(∃ u,w.cell? ⟨I.g,I.o+i,none⟩=some u)∧w.frozen? ⟨I.g,I.o+i,none⟩=false:=by
 unfold Heap.wr at e
 split at e
 · cases e
 rename_i B hB
 split at e
 · cases e
 rename_i C hC
 split at e
 case h_2=>cases e
 rename_i hc
 simp only [Bool.and_eq_true,Nat.blt_eq,Nat.ble_eq,Bool.not_eq_true']at hc
 obtain⟨⟨⟨⟨hbt,hmv⟩,hi⟩,hi9⟩,hro⟩:=hc
 have hbt:b=C.top:=Nat.eq_of_beq_eq_true hbt
 simp only [Option.some.injEq]at e
 subst e
 obtain⟨B',C',hB',hC',hbn,hes,hcn,hbtop,htn,hsz⟩:=H.dom b I hb
 rw [hB]at hB';cases hB'
 rw [hC]at hC';cases hC'
 have hnx:=H.nx
 obtain⟨hgs,hcell,hfr⟩:=H.img b I B hb hB
 obtain⟨u,hu⟩:=hcell (I.o+i) (by omega) (by omega)
 have gsame:∀ B₁,(h.blks.put b { B with cells:=B.cells.put i v }).get b=some B₁→B₁={ B with cells:=B.cells.put i v }:=by
  intro B₁ e1;rw [Tr.get_put_same (by omega)]at e1;exact(Option.some.inj e1).symm
 have csame:(h.cls.put B.cls { C with minv:=b }).get B.cls=some { C with minv:=b }:=Tr.get_put_same (by omega)
 have back:∀ b₁ B₁,(h.blks.put b { B with cells:=B.cells.put i v }).get b₁=some B₁→∃ B₀,h.blks.get b₁=some B₀∧B₁.size=B₀.size∧B₁.esz=B₀.esz∧B₁.cls=B₀.cls∧B₁.ro=B₀.ro∧(b₁≠b→B₁=B₀):=by
  intro b₁ B₁ e1
  by_cases hb1:b₁=b
  ·
   subst hb1
   rw [gsame B₁ e1]
   exact⟨B,hB,rfl,rfl,rfl,rfl,fun hn=>absurd rfl hn⟩
  ·
   rw [Tr.get_put_other hb1]at e1
   exact⟨B₁,e1,rfl,rfl,rfl,rfl,fun _=>rfl⟩
 have fore:∀ b₁ B₀,h.blks.get b₁=some B₀→∃ B₁,(h.blks.put b { B with cells:=B.cells.put i v }).get b₁=some B₁∧B₁.size=B₀.size∧B₁.esz=B₀.esz∧B₁.cls=B₀.cls∧B₁.ro=B₀.ro:=by
  intro b₁ B₀ e1
  by_cases hb1:b₁=b
  ·
   subst hb1
   rw [hB]at e1;cases e1
   exact⟨_,Tr.get_put_same (by omega),rfl,rfl,rfl,rfl⟩
  · exact⟨B₀,by rw [Tr.get_put_other hb1];exact e1,rfl,rfl,rfl,rfl⟩
 refine⟨⟨⟨hnx.1.go fun k hk=>X7p w ⟨I.g,I.o+i,none⟩ v' (fun(e:k=I.g)=>hnx.2 b I hb (e ▸ hk)),hnx.2⟩,?_,?_,?_,?_,?_,?_,fun b I L e1 e2=>(H.lp b I L e1 e2).go (Ext.refl ρ) fun _ n h=>X5R n h,H.ld,H.li,H.lz,?_⟩,⟨u,hu⟩,hfr hro _ (by omega) (by omega)⟩
 ·
  intro b₁ I₁ e1
  obtain⟨B₀,C₀,h1,h2,h3,h4,h5,h6,h7,h8⟩:=H.dom b₁ I₁ e1
  obtain⟨B₁,g1,g2,g3,g4,g5⟩:=fore b₁ B₀ h1
  by_cases hcl:B₀.cls=B.cls
  ·
   refine⟨B₁,{ C with minv:=b },g1,by rw [g4,hcl];exact csame,h3,by rw [g3];exact h4,by rw [g4];exact h5,?_,htn,by rw [g2];exact h8⟩
   rw [hcl,hC]at h2;cases h2;exact h6
  · exact⟨B₁,C₀,g1,by rw [g4,Tr.get_put_other hcl];exact h2,h3,by rw [g3];exact h4,by rw [g4];exact h5,h6,h7,by rw [g2];exact h8⟩
 ·
  intro b₁ I₁ B₁ e1 e2
  obtain⟨B₀,g1,g2,g3,g4,g5,g6⟩:=back b₁ B₁ e2
  obtain⟨k1,k2,k3⟩:=H.img b₁ I₁ B₀ e1 g1
  refine⟨by simpa using k1,fun j ho hj=>cell?_set_any w _ _ v' (k2 j ho hj),fun hr j ho hj=>?_⟩
  rw [World.frozen?_setCell];exact k3 (g5 ▸ hr) j ho hj
 ·
  intro b₁ I₁ B₁ C₁ e1 e2 e3 e4 j x hj hx
  obtain⟨B₀,g1,g2,g3,g4,g5,g6⟩:=back b₁ B₁ e2
  by_cases hcl:B₀.cls=B.cls
  ·
   rw [g4,hcl,csame]at e3
   simp only [Option.some.injEq]at e3
   subst e3
   obtain⟨B₂,C₂,d1,d2,_,_,_,d6,_,_⟩:=H.dom b₁ I₁ e1
   rw [g1]at d1;cases d1
   rw [hcl,hC]at d2;cases d2
   have hbb:b₁=b:=by
    have:b≤b₁:=e4
    omega
   subst hbb
   rw [hb]at e1;cases e1
   have:=gsame B₁ e2
   subst this
   by_cases hji:j=i
   ·
    subst hji
    have hx':(B.cells.put j v).get j=some x:=hx
    rw [Tr.get_put_same hi9]at hx'
    cases hx'
    exact⟨v',World.cell?_setCell_same w _ v' hu,hv⟩
   ·
    have hx':(B.cells.put i v).get j=some x:=hx
    rw [Tr.get_put_other hji]at hx'
    obtain⟨y,y1,y2⟩:∃ y,w.cell? ⟨I.g,I.o+j,none⟩=some y∧X13 ρ x y:=H.val b₁ I B C hb hB hC hmv j x hj hx'
    exact⟨y,by rw [World.cell?_setCell_other];exact y1;simp;omega,y2⟩
  ·
   rw [g4,Tr.get_put_other hcl]at e3
   have hne:b₁≠b:=by
    rintro rfl
    rw [hB]at g1;cases g1;exact hcl rfl
   obtain rfl:=g6 hne
   obtain⟨y,y1,y2⟩:=H.val b₁ I₁ B₁ C₁ e1 g1 e3 e4 j x hj hx
   refine⟨y,?_,y2⟩
   rw [World.cell?_setCell_other]
   · exact y1
   ·
    intro ea
    have:I.g=I₁.g:=congrArg Addr.block ea
    exact hcl (H.one b₁ b I₁ I B₁ B e1 hb this.symm g1 hB)
 ·
  intro b₁ b₂ I₁ I₂ B₁ B₂ e1 e2 eg h1 h2
  obtain⟨B₁',p1,_,_,p4,_,_⟩:=back b₁ B₁ h1
  obtain⟨B₂',q1,_,_,q4,_,_⟩:=back b₂ B₂ h2
  rw [p4,q4];exact H.one b₁ b₂ I₁ I₂ B₁' B₂' e1 e2 eg p1 q1
 ·
  intro b₁ I₁ B₁ C₁ J D e1 e2 e3 e4 e5 e6 e7
  obtain⟨B₀,g1,g2,g3,g4,g5,g6⟩:=back b₁ B₁ e2
  obtain⟨D₀,k1,k2,_,k4,_,_⟩:=back C₁.top D e7
  by_cases hcl:B₀.cls=B.cls
  ·
   rw [g4,hcl,csame]at e3
   simp only [Option.some.injEq]at e3
   subst e3
   obtain⟨B₂,C₂,d1,d2,_,_,_,d6,_,_⟩:=H.dom b₁ I₁ e1
   rw [g1]at d1;cases d1
   rw [hcl,hC]at d2;cases d2
   have hbb:b₁=b:=by
    have:b≤b₁:=e4
    omega
   have ht:C.top=b₁:=by omega
   have e5':ρ C.top=some J:=e5
   have k1':h.blks.get C.top=some D₀:=k1
   rw [ht]at e5' k1'
   rw [e1]at e5';cases e5'
   rw [g1]at k1';cases k1'
   omega
  ·
   rw [g4,Tr.get_put_other hcl]at e3
   have:=H.fin b₁ I₁ B₀ C₁ J D₀ e1 g1 e3 e4 e5 e6 k1
   omega
 ·
  intro g B₁ e1 e2
  obtain⟨B₀,g1,_,_,_,g5,_⟩:=back g B₁ e1
  exact H.glob g B₀ g1 (g5 ▸ e2)
 ·
  intro b₁ I₁ o T e1 ez
  obtain⟨s1,s2,s3,s4⟩:=H.st b₁ I₁ o T e1 ez
  refine⟨s1,s2,s3,fun B₁ C₁ h1 h2 ht=>?_⟩
  obtain⟨B₀,g1,g2,g3,g4,g5,g6⟩:=back b₁ B₁ h1
  by_cases hcl:B₀.cls=B.cls
  ·
   rw [g4,hcl,csame]at h2
   simp only [Option.some.injEq]at h2
   subst h2
   have ht:C.top=T:=ht
   rw [← hbt]at ht
   subst ht
   rw [hb]at s2;cases s2
  ·
   rw [g4,Tr.get_put_other hcl]at h2
   have hg:I₁.g≠I.g:=fun eg=>hcl (H.one b₁ b I₁ I B₀ B e1 hb eg g1 hB)
   rw [X7p _ _ _ hg]
   exact s4 B₀ C₁ g1 h2 ht
end
end Go.Vai

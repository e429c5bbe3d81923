/-
  What is proved here: a call without arguments, or with plain ones, that a plain interpreter of Go code answers with 'true a call that answers a plain value and leaves old memory as it was, as an answer known otherwise (par No conditions but those that the theorems state.
-/
import Derived.Test.YtmmmjbipgngamaaGreatDoorVL
import Derived.Below
set_option linter.unusedVariables false
set_option linter.unusedSimpArgs false
namespace Go.Vai
open Go.RowKit
noncomputable section
def h0:X04:=⟨.leaf,1000,.leaf,.leaf⟩
def X3M:Option (Value×X04)→Bool
 | some (.bool true,_)=>true
 | _=>false
theorem XBv {w:World} (ht:TW w):X0Y (fun _=>none) h0 w:=by
 refine⟨⟨ht,fun b I e=>by cases e⟩,?_,?_,?_,?_,?_,?_,?_,?_,?_,?_,fun _ _ _ _ e _=>by cases e⟩
 · intro b I e;cases e
 · intro b I B e;cases e
 · intro b I B C e;cases e
 · intro b₁ b₂ I₁ I₂ B₁ B₂ e;cases e
 · intro b I B C J D e;cases e
 · intro g B e _;simp [h0,Tr.get]at e
 · intro b I L e;cases e
 · intro b L e;simp [h0,Tr.get]at e
 · intro b b' I I' L L' e;cases e
 · intro b I L e;cases e
theorem Fr.below {w w':World} (f:Fr (fun _=>none) w w'):Below w.heap.size w w':=⟨f.os,f.tape,f.output,f.size,fun k hk=>f.keep k hk (by intro b I e;cases e)⟩
def noOv:Ov:=fun _=>none
theorem X7b {P:Program}:X8p P noOv:=fun _ _ h=>by cases h
def XAF (P:Program) (f:FuncId) (args:Array Value) (v:Value):Prop:=∀ w,TW w→Calls P f args w fun e w'=>e=.returned v∧Below w.heap.size w w'
theorem X17 {P:Program} (hf:P.follows .mixedOrders=true) {ov:Ov} (hov:X8p P ov) {f k:Nat} {args:List Value} (ha:args.all X01=true) (he:X3M (X5A P ov k (.func f) args h0)=true):XAF P f args.toArray (.bool true):=by
 intro w ht
 unfold X3M at he
 split at he
 case h_2=>cases he
 rename_i h' hr
 have ra:F2 (X0F (fun _=>none)) args args.toArray.toList:=by
  simp only [List.toList_toArray]
  exact F2.refl _ fun a h=>.of_cellsPlain (List.all_eq_true.1 ha a h)
 refine((XBu hf hov k).f f args h0 (.bool true) h' hr _ w args.toArray (XBv ht) ra).mono ?_
 rintro e w' ⟨v',ρ',rfl,r,_,_,fr⟩
 have:=r.eq_of_plain rfl
 subst this
 exact⟨rfl,fr.below⟩
theorem XAG {P:Program} {f:FuncId} {v:Value} (hv:X03 v=true) (h:XAF P f #[] v):X24 P f (fun args hp=>match args with | []=>some (v,hp) | _=>none):=by
 intro args hp u hp' e ρ w args' H r
 match args,e,r with
 | [],e,r =>
  cases e
  have ha:args'=#[]:=by have:=r.length;simp at this;exact Array.size_eq_zero_iff.1 this.symm
  subst ha
  refine(h w H.nx.1).mono ?_
  rintro e' w' ⟨rfl,hb⟩
  have keep:∀ k,k<w.heap.size→w'.heap[k]?=w.heap[k]?:=hb.block
  refine⟨v,ρ,rfl,.plain hv,H.world hb.size ?_ ?_ ?_ (fun b I hb' _ o hh=>by rw [keep I.g (X0P H hb')];exact hh) (fun k _ hk=>keep k hk),.refl _ _,⟨hb.os,hb.tape,hb.output,hb.size,fun k hk _=>keep k hk⟩⟩
  · intro b I hb' j _;exact cell?_of_heap (keep I.g (X0P H hb'))
  · intro b I hb' j _ _ hf;rw [frozen?_of_heap (keep I.g (X0P H hb'))];exact hf
  · intro g r _ hr;rw [keep g (Array.getElem?_eq_some_iff.1 hr).1];exact hr
def XAH:List Value→X04→Option (Value×X04):=fun args hp=>match args with
 | []=>some (.bool true,hp)
 | _=>none
def ovs (l:List Nat):Ov:=fun f=>match l.any (Nat.beq f)with
 | true=>some XAH
 | false=>none
theorem X8H {P:Program} {l:List Nat} (h:∀ f∈l,XAF P f #[] (.bool true)):X8p P (ovs l):=by
 intro f g e
 unfold ovs at e
 split at e
 ·
  rename_i hl
  cases e
  obtain⟨x,hx,hb⟩:=List.any_eq_true.1 hl
  have:f=x:=Nat.eq_of_beq_eq_true hb
  subst this
  exact XAG rfl (h f hx)
 · cases e
structure XAN where
 f:Nat
 args:List Value
 v:Value
def veqL:List Value→List Value→Bool
 | [],[]=>true
 | a::l,b::m=>match veq a b with
  | true=>veqL l m
  | false=>false
 | _,_=>false
theorem XD7:∀ {l m:List Value},veqL l m=true→l=m:=by
 intro l
 induction l with
 | nil=>intro m h;cases m with
  | nil=>rfl
  | cons b m=>cases h
 | cons a l ih=>intro m h;cases m with
  | nil=>cases h
  | cons b m =>
   simp only [veqL]at h
   split at h
   · rename_i hv;rw [XA8 hv,ih h]
   · cases h
def XAI (f:Nat) (args:List Value):List XAN→Option Value
 | []=>none
 | k::ks=>match Nat.beq k.f f with
  | true=>match veqL k.args args with
   | true=>some k.v
   | false=>XAI f args ks
  | false=>XAI f args ks
def XBw (f:Nat) (tbl:List XAN):List Value→X04→Option (Value×X04):=fun args h=>match XAI f args tbl with
 | some v=>some (v,h)
 | none=>none
def ovk (l:List Nat) (tbl:List XAN):Ov:=fun f=>match l.any (Nat.beq f)with
 | true=>some XAH
 | false=>match tbl.any (fun k=>Nat.beq k.f f)with
  | true=>some (XBw f tbl)
  | false=>none
def XE4 (v:Value):Option (Value×X04)→Bool
 | some (u,_)=>veq u v
 | none=>false
def X6w (P:Program) (ov:Ov) (k:XAN):Bool:=match k.args.all X01 && X01 k.v with
 | true=>XE4 k.v (X5A P ov 1000000 (.func k.f) k.args h0)
 | false=>false
theorem XD8 {P:Program} (hf:P.follows .mixedOrders=true) {ov:Ov} (hov:X8p P ov) {k:XAN} (h:X6w P ov k=true):XAF P k.f k.args.toArray k.v:=by
 intro w ht
 unfold X6w at h
 split at h
 case h_2=>cases h
 rename_i hp
 simp only [Bool.and_eq_true]at hp
 unfold XE4 at h
 split at h
 case h_2=>cases h
 rename_i u h' hr
 have hu:=XA8 h
 subst hu
 have ra:F2 (X0F (fun _=>none)) k.args k.args.toArray.toList:=by
  simp only [List.toList_toArray]
  exact F2.refl _ fun a h=>.of_cellsPlain (List.all_eq_true.1 hp.1 a h)
 refine((XBu hf hov 1000000).f k.f k.args h0 _ h' hr _ w k.args.toArray (XBv ht) ra).mono ?_
 rintro e w' ⟨v',ρ',rfl,r,_,_,fr⟩
 rw [r.eq_of_cellsPlain hp.2]
 exact⟨rfl,fr.below⟩
theorem XBb {f:Nat} {args:List Value} {v:Value}:∀ {tbl:List XAN},XAI f args tbl=some v→∃ k∈tbl,k.f=f∧k.args=args∧k.v=v:=by
 intro tbl
 induction tbl with
 | nil=>intro h;cases h
 | cons k ks ih =>
  intro h
  simp only [XAI]at h
  split at h
  ·
   rename_i hb
   split at h
   ·
    rename_i hv
    cases h
    exact⟨k,by simp,Nat.eq_of_beq_eq_true hb,XD7 hv,rfl⟩
   · obtain⟨x,h1,h2⟩:=ih h;exact⟨x,by simp [h1],h2⟩
  · obtain⟨x,h1,h2⟩:=ih h;exact⟨x,by simp [h1],h2⟩
theorem XBx {P:Program} {l:List Nat} {tbl:List XAN} (h:∀ f∈l,XAF P f #[] (.bool true)) (hf:P.follows .mixedOrders=true) {ov:Ov} (hov:X8p P ov) (ht:tbl.all (X6w P ov)=true):X8p P (ovk l tbl):=by
 intro f g e
 unfold ovk at e
 split at e
 ·
  rename_i hl
  cases e
  obtain⟨x,hx,hb⟩:=List.any_eq_true.1 hl
  have:f=x:=Nat.eq_of_beq_eq_true hb
  subst this
  exact XAG rfl (h f hx)
 ·
  split at e
  case h_2=>cases e
  cases e
  intro args hp v h' e ρ w args' H r
  unfold XBw at e
  split at e
  case h_2=>cases e
  rename_i u hl
  cases e
  obtain⟨k,hk,rfl,rfl,rfl⟩:=XBb hl
  have ok:=List.all_eq_true.1 ht k hk
  have hp1:k.args.all X01=true∧X01 k.v=true:=by
   have ok2:=ok
   unfold X6w at ok2
   split at ok2
   · rename_i hp;simpa using hp
   · cases ok2
  have ha:args'=k.args.toArray:=Array.toList_inj.1 (by simpa using r.eq_of_all hp1.1)
  subst ha
  refine(XD8 hf hov ok w H.nx.1).mono ?_
  rintro e' w' ⟨rfl,hb⟩
  have keep:∀ k,k<w.heap.size→w'.heap[k]?=w.heap[k]?:=hb.block
  refine⟨k.v,ρ,rfl,.of_cellsPlain hp1.2,H.world hb.size ?_ ?_ ?_ (fun b I hb' _ o hh=>by rw [keep I.g (X0P H hb')];exact hh) (fun k _ hk=>keep k hk),.refl _ _,⟨hb.os,hb.tape,hb.output,hb.size,fun k hk _=>keep k hk⟩⟩
  · intro b I hb' j _;exact cell?_of_heap (keep I.g (X0P H hb'))
  · intro b I hb' j _ _ hf;rw [frozen?_of_heap (keep I.g (X0P H hb'))];exact hf
  · intro g r _ hr;rw [keep g (Array.getElem?_eq_some_iff.1 hr).1];exact hr
end
end Go.Vai
namespace Go.Vai
open Go.RowKit
theorem X0y {ρ:Rho} {h:X04} {w w':World} {v:Value} (H:X0Y ρ h w) (hv:X03 v=true) (hb:Below w.heap.size w w'):X1s ρ w v h (.returned v) w':=by
 have keep:∀ k,k<w.heap.size→w'.heap[k]?=w.heap[k]?:=hb.block
 refine⟨v,ρ,rfl,.plain hv,H.world hb.size ?_ ?_ ?_ (fun b I hb' _ o hh=>by rw [keep I.g (X0P H hb')];exact hh) (fun k _ hk=>keep k hk),.refl _ _,⟨hb.os,hb.tape,hb.output,hb.size,fun k hk _=>keep k hk⟩⟩
 · intro b I hb' j _;exact cell?_of_heap (keep I.g (X0P H hb'))
 · intro b I hb' j _ _ hf;rw [frozen?_of_heap (keep I.g (X0P H hb'))];exact hf
 · intro g r _ hr;rw [keep g (Array.getElem?_eq_some_iff.1 hr).1];exact hr
end Go.Vai

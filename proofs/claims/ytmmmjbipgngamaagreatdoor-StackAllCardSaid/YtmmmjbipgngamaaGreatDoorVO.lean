/-
  What is proved here: a call without arguments, or with plain ones, that a plain interpreter of Go code answers with 'true a call that answers a plain value and leaves old memory as it was, as an answer known otherwise (par No conditions but those that the theorems state.
-/
import Derived.Test.YtmmmjbipgngamaaGreatDoorVL
import Derived.Below
set_option linter.unusedVariables false
set_option linter.unusedSimpArgs false
namespace Go.Vai
open Go.RowKit
noncomputable section
def h0:Heap:=⟨.leaf,1000,.leaf,.leaf⟩
def X4c:Option (Value×Heap)→Bool
 | some (.bool true,_)=>true
 | _=>false
theorem XEk {w:World} (ht:TW w):X0f (fun _=>none) h0 w:=by
 refine⟨⟨ht,fun b I e=>by cases e⟩,?_,?_,?_,?_,?_,?_,?_,?_,?_,?_,fun _ _ _ _ e _=>by cases e⟩
 · intro b I e;cases e
 · intro b I B e;cases e
 · intro b I B C e;cases e
 · intro b₁ b₂ I₁ I₂ B₁ B₂ e;cases e
 · intro b I B C J D e;cases e
 · intro g B e _;simp [h0,Tr.get]at e
 · intro b I L e;cases e
 · intro b L e;simp [h0,Tr.get]at e
 · intro b b' I I' L L' e;cases e
 · intro b I L e;cases e
theorem Fr.below {w w':World} (f:Fr (fun _=>none) w w'):Below w.heap.size w w':=⟨f.os,f.tape,f.output,f.size,fun k hk=>f.keep k hk (by intro b I e;cases e)⟩
def noOv:Ov:=fun _=>none
theorem X9L {P:Program}:XAq P noOv:=fun _ _ h=>by cases h
def XCe (P:Program) (f:FuncId) (args:Array Value) (v:Value):Prop:=∀ w,TW w→Calls P f args w fun e w'=>e=.returned v∧Below w.heap.size w w'
theorem X1s {P:Program} (hf:P.follows .mixedOrders=true) {ov:Ov} (hov:XAq P ov) {f k:Nat} {args:List Value} (ha:args.all X01=true) (he:X4c (X7L P ov k (.func f) args h0)=true):XCe P f args.toArray (.bool true):=by
 intro w ht
 unfold X4c at he
 split at he
 case h_2=>cases he
 rename_i h' hr
 have ra:F2 (X0N (fun _=>none)) args args.toArray.toList:=by
  simp only [List.toList_toArray]
  exact F2.refl _ fun a h=>.of_cellsPlain (List.all_eq_true.1 ha a h)
 refine((XCd hf hov k).f f args h0 (.bool true) h' hr _ w args.toArray (XEk ht) ra).mono ?_
 rintro e w' ⟨v',ρ',rfl,r,_,_,fr⟩
 have:=r.eq_of_plain rfl
 subst this
 exact⟨rfl,fr.below⟩
theorem XCf {P:Program} {f:FuncId} {v:Value} (hv:X03 v=true) (h:XCe P f #[] v):X2f P f (fun args hp=>match args with | []=>some (v,hp) | _=>none):=by
 intro args hp u hp' e ρ w args' H r
 match args,e,r with
 | [],e,r =>
  cases e
  have ha:args'=#[]:=by have:=r.length;simp at this;exact Array.size_eq_zero_iff.1 this.symm
  subst ha
  refine(h w H.nx.1).mono ?_
  rintro e' w' ⟨rfl,hb⟩
  have keep:∀ k,k<w.heap.size→w'.heap[k]?=w.heap[k]?:=hb.block
  refine⟨v,ρ,rfl,.plain hv,H.world hb.size ?_ ?_ ?_ (fun b I hb' _ o hh=>by rw [keep I.g (X0V H hb')];exact hh) (fun k _ hk=>keep k hk),.refl _ _,⟨hb.os,hb.tape,hb.output,hb.size,fun k hk _=>keep k hk⟩⟩
  · intro b I hb' j _;exact cell?_of_heap (keep I.g (X0V H hb'))
  · intro b I hb' j _ _ hf;rw [frozen?_of_heap (keep I.g (X0V H hb'))];exact hf
  · intro g r _ hr;rw [keep g (Array.getElem?_eq_some_iff.1 hr).1];exact hr
def XCg:List Value→Heap→Option (Value×Heap):=fun args hp=>match args with
 | []=>some (.bool true,hp)
 | _=>none
def ovs (l:List Nat):Ov:=fun f=>match l.any (Nat.beq f)with
 | true=>some XCg
 | false=>none
theorem XAF {P:Program} {l:List Nat} (h:∀ f∈l,XCe P f #[] (.bool true)):XAq P (ovs l):=by
 intro f g e
 unfold ovs at e
 split at e
 ·
  rename_i hl
  cases e
  obtain⟨x,hx,hb⟩:=List.any_eq_true.1 hl
  have:f=x:=Nat.eq_of_beq_eq_true hb
  subst this
  exact XCf rfl (h f hx)
 · cases e
structure Kept where
 f:Nat
 args:List Value
 v:Value
def veqL:List Value→List Value→Bool
 | [],[]=>true
 | a::l,b::m=>match veq a b with
  | true=>veqL l m
  | false=>false
 | _,_=>false
theorem XGA:∀ {l m:List Value},veqL l m=true→l=m:=by
 intro l
 induction l with
 | nil=>intro m h;cases m with
  | nil=>rfl
  | cons b m=>cases h
 | cons a l ih=>intro m h;cases m with
  | nil=>cases h
  | cons b m =>
   simp only [veqL]at h
   split at h
   · rename_i hv;rw [XCT hv,ih h]
   · cases h
def XCh (f:Nat) (args:List Value):List Kept→Option Value
 | []=>none
 | k::ks=>match Nat.beq k.f f with
  | true=>match veqL k.args args with
   | true=>some k.v
   | false=>XCh f args ks
  | false=>XCh f args ks
def XEl (f:Nat) (tbl:List Kept):List Value→Heap→Option (Value×Heap):=fun args h=>match XCh f args tbl with
 | some v=>some (v,h)
 | none=>none
def ovk (l:List Nat) (tbl:List Kept):Ov:=fun f=>match l.any (Nat.beq f)with
 | true=>some XCg
 | false=>match tbl.any (fun k=>Nat.beq k.f f)with
  | true=>some (XEl f tbl)
  | false=>none
def XHF (v:Value):Option (Value×Heap)→Bool
 | some (u,_)=>veq u v
 | none=>false
def X8T (P:Program) (ov:Ov) (k:Kept):Bool:=match k.args.all X01 && X01 k.v with
 | true=>XHF k.v (X7L P ov 1000000 (.func k.f) k.args h0)
 | false=>false
theorem XGB {P:Program} (hf:P.follows .mixedOrders=true) {ov:Ov} (hov:XAq P ov) {k:Kept} (h:X8T P ov k=true):XCe P k.f k.args.toArray k.v:=by
 intro w ht
 unfold X8T at h
 split at h
 case h_2=>cases h
 rename_i hp
 simp only [Bool.and_eq_true]at hp
 unfold XHF at h
 split at h
 case h_2=>cases h
 rename_i u h' hr
 have hu:=XCT h
 subst hu
 have ra:F2 (X0N (fun _=>none)) k.args k.args.toArray.toList:=by
  simp only [List.toList_toArray]
  exact F2.refl _ fun a h=>.of_cellsPlain (List.all_eq_true.1 hp.1 a h)
 refine((XCd hf hov 1000000).f k.f k.args h0 _ h' hr _ w k.args.toArray (XEk ht) ra).mono ?_
 rintro e w' ⟨v',ρ',rfl,r,_,_,fr⟩
 rw [r.eq_of_cellsPlain hp.2]
 exact⟨rfl,fr.below⟩
theorem XEI {f:Nat} {args:List Value} {v:Value}:∀ {tbl:List Kept},XCh f args tbl=some v→∃ k∈tbl,k.f=f∧k.args=args∧k.v=v:=by
 intro tbl
 induction tbl with
 | nil=>intro h;cases h
 | cons k ks ih =>
  intro h
  simp only [XCh]at h
  split at h
  ·
   rename_i hb
   split at h
   ·
    rename_i hv
    cases h
    exact⟨k,by simp,Nat.eq_of_beq_eq_true hb,XGA hv,rfl⟩
   · obtain⟨x,h1,h2⟩:=ih h;exact⟨x,by simp [h1],h2⟩
  · obtain⟨x,h1,h2⟩:=ih h;exact⟨x,by simp [h1],h2⟩
theorem XEm {P:Program} {l:List Nat} {tbl:List Kept} (h:∀ f∈l,XCe P f #[] (.bool true)) (hf:P.follows .mixedOrders=true) {ov:Ov} (hov:XAq P ov) (ht:tbl.all (X8T P ov)=true):XAq P (ovk l tbl):=by
 intro f g e
 unfold ovk at e
 split at e
 ·
  rename_i hl
  cases e
  obtain⟨x,hx,hb⟩:=List.any_eq_true.1 hl
  have:f=x:=Nat.eq_of_beq_eq_true hb
  subst this
  exact XCf rfl (h f hx)
 ·
  split at e
  case h_2=>cases e
  cases e
  intro args hp v h' e ρ w args' H r
  unfold XEl at e
  split at e
  case h_2=>cases e
  rename_i u hl
  cases e
  obtain⟨k,hk,rfl,rfl,rfl⟩:=XEI hl
  have ok:=List.all_eq_true.1 ht k hk
  have hp1:k.args.all X01=true∧X01 k.v=true:=by
   have ok2:=ok
   unfold X8T at ok2
   split at ok2
   · rename_i hp;simpa using hp
   · cases ok2
  have ha:args'=k.args.toArray:=Array.toList_inj.1 (by simpa using r.eq_of_all hp1.1)
  subst ha
  refine(XGB hf hov ok w H.nx.1).mono ?_
  rintro e' w' ⟨rfl,hb⟩
  have keep:∀ k,k<w.heap.size→w'.heap[k]?=w.heap[k]?:=hb.block
  refine⟨k.v,ρ,rfl,.of_cellsPlain hp1.2,H.world hb.size ?_ ?_ ?_ (fun b I hb' _ o hh=>by rw [keep I.g (X0V H hb')];exact hh) (fun k _ hk=>keep k hk),.refl _ _,⟨hb.os,hb.tape,hb.output,hb.size,fun k hk _=>keep k hk⟩⟩
  · intro b I hb' j _;exact cell?_of_heap (keep I.g (X0V H hb'))
  · intro b I hb' j _ _ hf;rw [frozen?_of_heap (keep I.g (X0V H hb'))];exact hf
  · intro g r _ hr;rw [keep g (Array.getElem?_eq_some_iff.1 hr).1];exact hr
end
end Go.Vai
namespace Go.Vai
open Go.RowKit
theorem X1G {ρ:Rho} {h:Heap} {w w':World} {v:Value} (H:X0f ρ h w) (hv:X03 v=true) (hb:Below w.heap.size w w'):X2K ρ w v h (.returned v) w':=by
 have keep:∀ k,k<w.heap.size→w'.heap[k]?=w.heap[k]?:=hb.block
 refine⟨v,ρ,rfl,.plain hv,H.world hb.size ?_ ?_ ?_ (fun b I hb' _ o hh=>by rw [keep I.g (X0V H hb')];exact hh) (fun k _ hk=>keep k hk),.refl _ _,⟨hb.os,hb.tape,hb.output,hb.size,fun k hk _=>keep k hk⟩⟩
 · intro b I hb' j _;exact cell?_of_heap (keep I.g (X0V H hb'))
 · intro b I hb' j _ _ hf;rw [frozen?_of_heap (keep I.g (X0V H hb'))];exact hf
 · intro g r _ hr;rw [keep g (Array.getElem?_eq_some_iff.1 hr).1];exact hr
end Go.Vai

/-
  What is proved here: a call without arguments, or with plain ones, that a plain interpreter of Go code answers with 'true a call that answers a plain value and leaves old memory as it was, as an answer known otherwise (par No conditions but those that the theorems state.
-/
import Derived.Test.YtiebldaihnbkmaaGreatDoorVL
import Derived.Below
set_option linter.unusedVariables false
set_option linter.unusedSimpArgs false
namespace Go.Vai
open Go.RowKit
noncomputable section
def h0:X0A:=⟨.leaf,1000,.leaf,.leaf⟩
def X93:Option (Value×X0A)→Bool
 | some (.bool true,_)=>true
 | _=>false
theorem XJE {w:World} (ht:TW w):X0w (fun _=>none) h0 w:=by
 refine⟨⟨ht,fun b I e=>by cases e⟩,?_,?_,?_,?_,?_,?_,?_,?_,?_,?_,fun _ _ _ _ e _=>by cases e⟩
 · intro b I e;cases e
 · intro b I B e;cases e
 · intro b I B C e;cases e
 · intro b₁ b₂ I₁ I₂ B₁ B₂ e;cases e
 · intro b I B C J D e;cases e
 · intro g B e _;simp [h0,Tr.get]at e
 · intro b I L e;cases e
 · intro b L e;simp [h0,Tr.get]at e
 · intro b b' I I' L L' e;cases e
 · intro b I L e;cases e
theorem Fr.below {w w':World} (f:Fr (fun _=>none) w w'):Below w.heap.size w w':=⟨f.os,f.tape,f.output,f.size,fun k hk=>f.keep k hk (by intro b I e;cases e)⟩
def noOv:Ov:=fun _=>none
theorem XI2 {P:Program}:XFz P noOv:=fun _ _ h=>by cases h
def Said (P:Program) (f:FuncId) (args:Array Value) (v:Value):Prop:=∀ w,TW w→Calls P f args w fun e w'=>e=.returned v∧Below w.heap.size w w'
theorem X6E {P:Program} (hf:P.follows .mixedOrders=true) {ov:Ov} (hov:XFz P ov) {f k:Nat} {args:List Value} (ha:args.all X04=true) (he:X93 (XDq P ov k (.func f) args h0)=true):Said P f args.toArray (.bool true):=by
 intro w ht
 unfold X93 at he
 split at he
 case h_2=>cases he
 rename_i h' hr
 have ra:F2 (X0S (fun _=>none)) args args.toArray.toList:=by
  simp only [List.toList_toArray]
  exact F2.refl _ fun a h=>.of_cellsPlain (List.all_eq_true.1 ha a h)
 refine((XJD hf hov k).f f args h0 (.bool true) h' hr _ w args.toArray (XJE ht) ra).mono ?_
 rintro e w' ⟨v',ρ',rfl,r,_,_,fr⟩
 have:=r.eq_of_plain rfl
 subst this
 exact⟨rfl,fr.below⟩
theorem XA0 {P:Program} (hf:P.follows .mixedOrders=true) {f k:Nat} {args:List Value} (ha:args.all X04=true) (he:X93 (XDq P noOv k (.func f) args h0)=true) (w:World) (ht:TW w) :
  Calls P f args.toArray w fun e w'=>e=.returned (.bool true)∧Below w.heap.size w w':=X6E hf XI2 ha he w ht
theorem XI3 {P:Program} {f:FuncId} {v:Value} (hv:X07 v=true) (h:Said P f #[] v):X8n P f (fun args hp=>match args with | []=>some (v,hp) | _=>none):=by
 intro args hp u hp' e ρ w args' H r
 match args,e,r with
 | [],e,r =>
  cases e
  have ha:args'=#[]:=by have:=r.length;simp at this;exact Array.size_eq_zero_iff.1 this.symm
  subst ha
  refine(h w H.nx.1).mono ?_
  rintro e' w' ⟨rfl,hb⟩
  have keep:∀ k,k<w.heap.size→w'.heap[k]?=w.heap[k]?:=hb.block
  refine⟨v,ρ,rfl,.plain hv,H.world hb.size ?_ ?_ ?_ (fun b I hb' _ o hh=>by rw [keep I.g (X0p H hb')];exact hh) (fun k _ hk=>keep k hk),.refl _ _,⟨hb.os,hb.tape,hb.output,hb.size,fun k hk _=>keep k hk⟩⟩
  · intro b I hb' j _;exact cell?_of_heap (keep I.g (X0p H hb'))
  · intro b I hb' j _ _ hf;rw [frozen?_of_heap (keep I.g (X0p H hb'))];exact hf
  · intro g r _ hr;rw [keep g (Array.getElem?_eq_some_iff.1 hr).1];exact hr
def XJF:List Value→X0A→Option (Value×X0A):=fun args hp=>match args with
 | []=>some (.bool true,hp)
 | _=>none
def ovs (l:List Nat):Ov:=fun f=>match l.any (Nat.beq f)with
 | true=>some XJF
 | false=>none
theorem XJG {P:Program} {l:List Nat} (h:∀ f∈l,Said P f #[] (.bool true)):XFz P (ovs l):=by
 intro f g e
 unfold ovs at e
 split at e
 ·
  rename_i hl
  cases e
  obtain⟨x,hx,hb⟩:=List.any_eq_true.1 hl
  have:f=x:=Nat.eq_of_beq_eq_true hb
  subst this
  exact XI3 rfl (h f hx)
 · cases e
structure Kept where
 f:Nat
 args:List Value
 v:Value
def veqL:List Value→List Value→Bool
 | [],[]=>true
 | a::l,b::m=>match veq a b with
  | true=>veqL l m
  | false=>false
 | _,_=>false
def XG4 (f:Nat) (args:List Value):List Kept→Option Value
 | []=>none
 | k::ks=>match Nat.beq k.f f with
  | true=>match veqL k.args args with
   | true=>some k.v
   | false=>XG4 f args ks
  | false=>XG4 f args ks
end
end Go.Vai
namespace Go.Vai
open Go.RowKit
theorem XBf {ρ:Rho} {h:X0A} {w w':World} {v:Value} (H:X0w ρ h w) (hv:X07 v=true) (hb:Below w.heap.size w w'):X2s ρ w v h (.returned v) w':=by
 have keep:∀ k,k<w.heap.size→w'.heap[k]?=w.heap[k]?:=hb.block
 refine⟨v,ρ,rfl,.plain hv,H.world hb.size ?_ ?_ ?_ (fun b I hb' _ o hh=>by rw [keep I.g (X0p H hb')];exact hh) (fun k _ hk=>keep k hk),.refl _ _,⟨hb.os,hb.tape,hb.output,hb.size,fun k hk _=>keep k hk⟩⟩
 · intro b I hb' j _;exact cell?_of_heap (keep I.g (X0p H hb'))
 · intro b I hb' j _ _ hf;rw [frozen?_of_heap (keep I.g (X0p H hb'))];exact hf
 · intro g r _ hr;rw [keep g (Array.getElem?_eq_some_iff.1 hr).1];exact hr
end Go.Vai

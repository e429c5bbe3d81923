/-
  What is proved here: the library's contract of utf8.ValidString, laid at this program. what is known of calls is so: begun16 is true, utf8.ValidString tells whether a text is one. No conditions but those that the theorems state.
-/
import Derived.Test.YtiebldaihnbkmaaGreatDoorProg
import Derived.Shelf.Unicode.ValidAny
import Derived.KernelRfl
import Derived.Test.YtiebldaihnbkmaaGreatDoorB16
import Derived.Test.YtiebldaihnbkmaaGreatDoorNB
import Derived.Test.YtiebldaihnbkmaaGreatDoorVO
set_option linter.unusedVariables false
set_option linter.unusedSimpArgs false
set_option maxRecDepth 100000
namespace Go.Proofs.YtiebldaihnbkmaaGreatDoor
open Go.Shelf
def renV:Ren:=⟨fun x=>match x with
 | 196=>54
 | 259=>73
 | x=>x,fun x=>match x with
 | 46=>63
 | 53=>126
 | 119=>103
 | 138=>105
 | 139=>106
 | x=>x,fun x=>match x with
 | 3=>0
 | 4=>1
 | x=>x⟩
theorem XJH:Lays.n196 Tryz.prog renV:={
  mixed:=by kernel_rfl
  f196:=by kernel_rfl
  f259:=by kernel_rfl
  t0:=by kernel_rfl
  a0:=fun _=>by kernel_rfl
  z0:=fun _=>by kernel_rfl
  v0:=fun _=>by kernel_rfl
  t3:=by kernel_rfl
  a3:=fun _=>by kernel_rfl
  z3:=fun _=>by kernel_rfl
  v3:=fun _=>by kernel_rfl
  t4:=by kernel_rfl
  a4:=fun _=>by kernel_rfl
  z4:=fun _=>by kernel_rfl
  v4:=fun _=>by kernel_rfl
  t5:=by kernel_rfl
  a5:=fun _=>by kernel_rfl
  z5:=fun _=>by kernel_rfl
  v5:=fun _=>by kernel_rfl
  t9:=by kernel_rfl
  a9:=fun _=>by kernel_rfl
  z9:=fun _=>by kernel_rfl
  v9:=fun _=>by kernel_rfl
  t12:=by kernel_rfl
  a12:=fun _=>by kernel_rfl
  z12:=fun _=>by kernel_rfl
  v12:=fun _=>by kernel_rfl
  t46:=by kernel_rfl
  a46:=fun _=>by kernel_rfl
  z46:=fun _=>by kernel_rfl
  v46:=fun _=>by kernel_rfl
  t53:=by kernel_rfl
  a53:=fun _=>by kernel_rfl
  z53:=fun _=>by kernel_rfl
  v53:=fun _=>by kernel_rfl
  t119:=by kernel_rfl
  a119:=fun _=>by kernel_rfl
  z119:=fun _=>by kernel_rfl
  t138:=by kernel_rfl
  a138:=fun _=>by kernel_rfl
  z138:=fun _=>by kernel_rfl
  v138:=fun _=>by kernel_rfl
  t139:=by kernel_rfl
  a139:=fun _=>by kernel_rfl
  z139:=fun _=>by kernel_rfl
  v139:=fun _=>by kernel_rfl
  g3:=by kernel_rfl
  g4:=by kernel_rfl
 }
end Go.Proofs.YtiebldaihnbkmaaGreatDoor
namespace Go.Proofs.YtiebldaihnbkmaaGreatDoor
open Go.Vai
theorem vs_ok:X8n Tryz.prog 54 XIF:=by
 intro args h v h' e ρ w args' H r
 match args,e,r with
 | [.string s],e,r =>
  simp only [XIF]at e
  split at e
  ·
   rename_i hs
   cases e
   have ha:args'=#[.string s]:=by
    refine Array.toList_inj.1 ?_
    generalize args'.toList=l at r
    cases r with
    | cons r t =>
     cases t
     rw [r.eq_of_plain rfl]
   subst ha
   exact(Any.utf8_ValidString XJH s w (of_decide_eq_true hs) H.nx.1).mono fun e' w' ⟨q1,q2⟩=>by subst q1;exact XBf H rfl q2
  · cases e
theorem ov_ok:XFz Tryz.prog ov:=by
 intro f g e
 unfold ov at e
 split at e
 ·
  rename_i hf
  have:=Nat.eq_of_beq_eq_true hf
  subst this
  cases e
  exact vs_ok
 ·
  exact XJG (l:=[16]) (fun f hf w ht=>by
   simp at hf;subst hf
   exact XG5 w ht) f g e
end Go.Proofs.YtiebldaihnbkmaaGreatDoor

/-
  What is proved here: rotuluslaw14.begun answers true in every world, and turns nothing of what was there. No conditions. What is proved here: what is known of calls is so: begun16 is true, utf8.ValidString tells whether a text is one. No conditions.
-/
import Derived.Test.YtiebldaihnbkmaaGreatDoorProg
import Derived.Test.YtiebldaihnbkmaaGreatDoorVO
import Derived.KernelRfl
import Derived.Test.YtiebldaihnbkmaaGreatDoorNB
import Derived.Test.YtiebldaihnbkmaaGreatDoorVSV
set_option linter.unusedVariables false
set_option linter.unusedSimpArgs false
namespace Go.Proofs.YtiebldaihnbkmaaGreatDoor
open Go.RowKit
theorem mixed16 : Tryz.prog.follows .mixedOrders = true := by kernel_rfl
set_option maxRecDepth 100000 in
theorem begun16_runs : Vai.okTrue (Vai.runN' Tryz.prog Vai.noOv 1000000 (.func 16) [] Vai.h0) = true := by kernel_rfl
theorem begun16 (w : World) (ht : Vai.TW w) : Calls Tryz.prog 16 #[] w fun e w' => e = .returned (.bool true) ∧ Below w.heap.size w w' := Vai.closed_true mixed16 (args := []) rfl begun16_runs w ht
end Go.Proofs.YtiebldaihnbkmaaGreatDoor
namespace Go.Proofs.YtiebldaihnbkmaaGreatDoor
open Go.Vai
theorem vs_ok : FuncOk Tryz.prog 54 vsFn := by
 intro args h v h' e ρ w args' H r
 match args, e, r with
 | [.string s], e, r =>
  simp only [vsFn] at e
  split at e
  ·
   rename_i hs
   cases e
   have ha : args' = #[.string s] := by
    refine Array.toList_inj.1 ?_
    generalize args'.toList = l at r
    cases r with
    | cons r t =>
     cases t
     rw [r.eq_of_plain rfl]
   subst ha
   exact (Any.utf8_ValidString laysV s w (of_decide_eq_true hs) H.nx.1).mono fun e' w' ⟨q1, q2⟩ => by subst q1; exact below_post H rfl q2
  · cases e
theorem ov_ok : OvOk Tryz.prog ov := by
 intro f g e
 unfold ov at e
 split at e
 ·
  rename_i hf
  have := Nat.eq_of_beq_eq_true hf
  subst this
  cases e
  exact vs_ok
 ·
  exact ovs_ok (l := [16]) (fun f hf w ht => by
   simp at hf; subst hf
   exact begun16 w ht) f g e
end Go.Proofs.YtiebldaihnbkmaaGreatDoor

/-
  What is proved here: what is known of calls is so: begun16 is true, utf8.ValidString tells whether a text is one. No conditions.
-/
import Derived.Test.YtiebldaihnbkmaaGreatDoorB16
import Derived.Test.YtiebldaihnbkmaaGreatDoorNB
import Derived.Test.YtiebldaihnbkmaaGreatDoorVO
import Derived.Test.YtiebldaihnbkmaaGreatDoorVSV
set_option linter.unusedVariables false
set_option linter.unusedSimpArgs false
namespace Go.Proofs.YtiebldaihnbkmaaGreatDoor
open Go.Vai
theorem vs_ok : FuncOk Tryz.prog 54 vsFn := by
 intro args h v h' e ρ w args' H r
 match args, e, r with
 | [.string s], e, r =>
  simp only [vsFn] at e
  split at e
  ·
   rename_i hs
   cases e
   have ha : args' = #[.string s] := by
    refine Array.toList_inj.1 ?_
    generalize args'.toList = l at r
    cases r with
    | cons r t =>
     cases t
     rw [r.eq_of_plain rfl]
   subst ha
   exact (Any.utf8_ValidString laysV s w (of_decide_eq_true hs) H.nx.1).mono fun e' w' ⟨q1, q2⟩ => by subst q1; exact below_post H rfl q2
  · cases e
theorem ov_ok : OvOk Tryz.prog ov := by
 intro f g e
 unfold ov at e
 split at e
 ·
  rename_i hf
  have := Nat.eq_of_beq_eq_true hf
  subst this
  cases e
  exact vs_ok
 ·
  exact ovs_ok (l := [16]) (fun f hf w ht => by
   simp at hf; subst hf
   exact begun16 w ht) f g e
end Go.Proofs.YtiebldaihnbkmaaGreatDoor

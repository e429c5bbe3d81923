/-
  What is proved here: a law of plain values, from its contract over plain data (part RP). No conditions.
-/
import Derived.Test.YtiebldaihnbkmaaGreatDoorRD
import Derived.Test.YtiebldaihnbkmaaGreatDoorVO
set_option linter.unusedVariables false
set_option linter.unusedSimpArgs false
namespace Go.Vai
open Go.RowKit
noncomputable section
def a0 : AH := ⟨fun _ => none, fun _ => none, 1000⟩
theorem h0_ab : Ab h0 a0 := by
 constructor
 · exact fun b _ => ⟨rfl, rfl⟩
 · rfl
 · intro b B e; cases e
 · intro b x e; cases e
theorem plain_pure {P : Program} (hf : P.follows .mixedOrders = true) {ov : Ov} (hov : OvOk P ov) {f : FuncId} {ds : List D} {vs : List Value} (hd : F2 (D1 (MM (fun _ => False) []) [] a0) ds vs) (hv : vs.all cellsPlain = true)
  (h : PureD P ov f ds (.bool true)) (w : World) (ht : TW w) : Calls P f vs.toArray w fun e w' => e = .returned (.bool true) ∧ Below w.heap.size w w' := by
 have F := h (fun _ => False) [] a0 vs h0_ab.ok (fun _ x => x.elim) rfl .nil (fun k hk => by cases hk) (fun i x o e _ => by cases e) hd
 obtain ⟨v, h', a', ⟨K, e⟩, A', q⟩ := F h0 h0_ab
 obtain ⟨r, L', g', q1, q2, q3, q4, q5, q6, q7, q8, q9, q10, q11, q12⟩ := q
 subst q11
 cases q1
 have e := e K (Nat.le_refl _)
 exact closed_said hf hov (k := K) hv (by
  have : runN' P ov K (.func f) vs h0 = some (.bool true, h') := e
  unfold okTrue; rw [this]) w ht
end
end Go.Vai

/-
  What is proved here: rotuluslaw14.NfaWeight answers true for all texts and numbers (its walk is NfaWeight_fn). No conditions.
-/
import Derived.Test.YtiebldaihnbkmaaGreatDoorUJ
import Derived.Test.YtiebldaihnbkmaaGreatDoorB16
import Derived.Test.YtiebldaihnbkmaaGreatDoorRD
import Derived.Lib.LaidU8T
import Derived.Test.YtiebldaihnbkmaaGreatDoorTie
import Derived.Test.YtiebldaihnbkmaaGreatDoorCards
import Derived.WalkKit
import Derived.ProofKit
import Derived.OpenShut
import Derived.ShutString
import Derived.ChangeOld
import Derived.Below
import Derived.Carry
import Derived.Lay
import Derived.LaidOnce
import Derived.SevenTiedAt
import Derived.Deep.DeepHandedRow
import Derived.SizedLaws
set_option linter.unusedVariables false
set_option linter.unusedSimpArgs false
namespace Go.Proofs.YtiebldaihnbkmaaGreatDoor.nfaWeight
open Go.ChangeShapes Go.WideShapes Go.ChangeAt Go.RowKit
open Go.ChangeMaps (open_string shut_string)
set_option linter.unusedVariables false
set_option maxRecDepth 100000
theorem own : ownKnob Tryz.prog.godebug = none := by kernel_rfl
theorem walk {W : World} (ht : Vai.TW W) (z0 : Int) (hz0 : -9223372036854775808 ≤ z0 ∧ z0 < 9223372036854775808) (z1 : Int) (hz1 : -9223372036854775808 ≤ z1 ∧ z1 < 9223372036854775808) (z2 : Int) (hz2 : -9223372036854775808 ≤ z2 ∧ z2 < 9223372036854775808) (z3 : Int) (hz3 : -9223372036854775808 ≤ z3 ∧ z3 < 9223372036854775808) :
  Calls Tryz.prog 14 #[Value.int .i64 z0, Value.int .i64 z1, Value.int .i64 z2, Value.int .i64 z3] W fun e w' => e = .returned (.bool true) ∧ Below W.heap.size W w' :=
 Vai.plain_pure mixed16 ov_ok (ds := [Vai.D.int .i64 z0, Vai.D.int .i64 z1, Vai.D.int .i64 z2, Vai.D.int .i64 z3]) (vs := [Value.int .i64 z0, Value.int .i64 z1, Value.int .i64 z2, Value.int .i64 z3]) (.cons (show Vai.CR _ Vai.a0 (.int .i64 z0) (.int .i64 z0) from .int) (.cons (show Vai.CR _ Vai.a0 (.int .i64 z1) (.int .i64 z1) from .int) (.cons (show Vai.CR _ Vai.a0 (.int .i64 z2) (.int .i64 z2) from .int) (.cons (show Vai.CR _ Vai.a0 (.int .i64 z3) (.int .i64 z3) from .int) .nil)))) rfl (NfaWeight_fn z0 z1 z2 z3 hz0 hz1 hz2 hz3) W ht
theorem first_eq : Rows.laid_unicode_utf8_first = Lib.firstData := by kernel_rfl
theorem accept_eq : Rows.laid_unicode_utf8_acceptRanges = Lib.acceptData := by kernel_rfl
theorem first_in : (("unicode/utf8.first", Lib.firstData) : String × DataW Unit) ∈ Rows.nfaWeightRow.laid := by
 rw [← first_eq]; exact .tail _ (.tail _ (.tail _ (.tail _ (.head _))))
theorem accept_in : (("unicode/utf8.acceptRanges", Lib.acceptData) : String × DataW Unit) ∈ Rows.nfaWeightRow.laid := by
 rw [← accept_eq]; exact .tail _ (.tail _ (.tail _ (.head _)))
theorem tabs {W : World} (hL : laidMet Tryz.prog Rows.nfaWeightRow.laid W) : Vai.TW W :=
 utf8Tabs_of_readsT (P := Tryz.prog) (ρ := renV) (U8Types.of196 laysV) ⟨by kernel_rfl, by kernel_rfl, by kernel_rfl, by kernel_rfl, by kernel_rfl, by kernel_rfl, by kernel_rfl⟩
  (Lib.laidMet.reads hL (d := Lib.firstData) (show ("unicode/utf8.first", Lib.firstData) ∈ Rows.nfaWeightRow.laid from first_in)) (Lib.laidMet.reads hL (d := Lib.acceptData) (show ("unicode/utf8.acceptRanges", Lib.acceptData) ∈ Rows.nfaWeightRow.laid from accept_in))
theorem lifted (os : Os) (started : os.Started) (H : Type) (enc : TypeId × Value → H) :
  ReturnsInHanded {} Tryz.checked os 14 .any (fun w args => (Rows.nfaWeightSpec.pre enc Tryz.prog Tryz.f14 [] false w args ∧ laidMetH Tryz.prog Rows.nfaWeightRow.laid w) ∧ sizedMet enc Tryz.prog Tryz.f14 (OpenSpec.ofChange Rows.nfaWeightSpec) false w args) (Rows.nfaWeightSpec.post enc Tryz.prog Tryz.f14 false true false false) := by
 refine returnsInHanded_of_change_and (C := Tryz.checked) (X := fun w _ => laidMetH Tryz.prog Rows.nfaWeightRow.laid w) (fun _ _ _ hh h => h.of_heap hh) own started (by kernel_rfl) Tryz.func14
  (ChangeSpec.witness_shaped (enc := enc) (C := Tryz.checked) (os := os) (X := fun w _ => laidMetH Tryz.prog Rows.nfaWeightRow.laid w) false (World.laidAll Tryz.prog os Rows.nfaWeightRow.laid) #[.int .i64 0, .int .i64 0, .int .i64 0, .int .i64 0] 8 (World.laidAll_os _ _ _)
   (World.shaped_of_ZipB (by kernel_rfl) (by kernel_rfl)) (by kernel_rfl) (by kernel_rfl) (by kernel_rfl)
   (by rw [MakeChecks.laidMetH_plain _ _ _ (by kernel_rfl)]; exact laidMet_laidAll _ (by kernel_rfl) (by kernel_rfl))) ?_
 intro W base args ds gs before hval0 hW hcnd hsz0 hL _
 rw [MakeChecks.laidMetH_plain _ _ _ (by kernel_rfl)] at hL
 have ht := tabs hL
 have hsz : (DataW.weightsEach Tryz.prog (Tryz.f14.params.toList ++ Rows.nfaWeightSpec.plain.varTypes Tryz.prog) (ds ++ gs)).all (· ≤ reachBytes) = true := hsz0
 have hval : ∀ (j : Nat) t v, Tryz.f14.params[j]? = some t → args[j]? = some v → Value.okWide Tryz.prog W .any base t v := hval0
 have hW' := hW
 obtain ⟨p, q, hA0, hV, rfl, hfz, hnd⟩ := hW
 have hA : DataW.TrodAll enc Tryz.prog W 0 (fun _ => true) true Tryz.f14.params.toList args.toList ds p := hA0
 rw [Tryz.params14] at hA hval hsz
 obtain ⟨v0, vs0, d0, ds0, p0, q0, hargs, rfl, rfl, h0, r0⟩ := trodAll_cons hA
 obtain ⟨v1, vs1, d1, ds1, p1, q1, rfl, rfl, rfl, h1, r1⟩ := trodAll_cons r0
 obtain ⟨v2, vs2, d2, ds2, p2, q2, rfl, rfl, rfl, h2, r2⟩ := trodAll_cons r1
 obtain ⟨v3, vs3, d3, ds3, p3, q3, rfl, rfl, rfl, h3, r3⟩ := trodAll_cons r2
 obtain ⟨rfl, rfl, rfl⟩ := trodAll_nil r3
 obtain rfl : args = #[v0, v1, v2, v3] := by cases args; simp_all
 obtain ⟨rfl, rfl⟩ := trodVars_none hV
 obtain ⟨z0, rfl, rfl, rfl, y0⟩ := open_int Tryz.underlying3 (hval 0 3 v0 rfl rfl) h0
 obtain ⟨z1, rfl, rfl, rfl, y1⟩ := open_int Tryz.underlying3 (hval 1 3 v1 rfl rfl) h1
 obtain ⟨z2, rfl, rfl, rfl, y2⟩ := open_int Tryz.underlying3 (hval 2 3 v2 rfl rfl) h2
 obtain ⟨z3, rfl, rfl, rfl, y3⟩ := open_int Tryz.underlying3 (hval 3 3 v3 rfl rfl) h3
 clear hA0 hval0 hsz0 hsz
 refine (walk ht z0 (by have := Go.bounds_i64 y0; omega) z1 (by have := Go.bounds_i64 y1; omega) z2 (by have := Go.bounds_i64 y2; omega) z3 (by have := Go.bounds_i64 y3; omega)).mono fun e W' ⟨he, bel⟩ => ?_
 subst he
 exact ⟨_, rfl, _, _, _, [], _, [], hW', trodAll_mk1 (shut_bool Tryz.underlying4 _), (trodAll_cons_mk (shut_int Tryz.underlying3 y0) (trodAll_cons_mk (shut_int Tryz.underlying3 y1) (trodAll_cons_mk (shut_int Tryz.underlying3 y2) (trodAll_cons_mk (shut_int Tryz.underlying3 y3) trodAll_mk0)))), rfl, bel.frame _, fun h => by cases h⟩
theorem over : Rows.nfaWeightRow.holds Tryz.pinned (OpenSpec.ofChange Rows.nfaWeightSpec) :=
 OpenClaim.holds_of_wide 14 Tryz.f14 rfl rfl rfl rfl rfl rfl rfl ⟨rfl, rfl, rfl, rfl, rfl⟩ rfl rfl rfl rfl rfl (by kernel_rfl) Tryz.func14 (by kernel_rfl)
  (of_decide_eq_true (by kernel_rfl)) (by unfold Func.isWrapper; first | (rw [if_pos (by decide +kernel)]; kernel_rfl) | (rw [if_neg (by decide +kernel)]; exact ⟨rfl, rfl⟩))
  (fun os started H enc _ => lifted os started H enc)
theorem card : Rows.NfaWeightCardSaid :=
 Claim7.holds_tied_plain_at .later [] [.data, .data, .data, .data, .pinned] true (true, "d117c101de34bf04ca5e6daf347c683be796a753d16d7b155956bbd42096410a") false over (fun _ h => by cases h) (by kernel_rfl) (fun _ h => by cases h) nfaWeight_row_tie rfl ⟨rfl, rfl⟩ (by kernel_rfl) rfl
  (fun f fn hf hfn => by
   obtain rfl : f = 14 := Option.some.inj ((show Tryz.prog.funcNamed "rotulus/rotuluslaw14.NfaWeight" = some 14 by kernel_rfl).symm.trans hf) |>.symm
   obtain rfl : fn = Tryz.f14 := (Option.some.inj (Tryz.func14.symm.trans hfn)).symm
   exact ⟨by kernel_rfl, fun j t ht => by
    rw [Tryz.params14] at ht
    have hm : t ∈ (Tryz.f14.params.toList) := by
     have := Array.mem_of_getElem? ht
     rw [Tryz.params14]; simpa using this
    have hall : (Tryz.f14.params.toList.all fun u => !Tryz.prog.wantsStandIn u) = true := by kernel_rfl
    exact (show Tryz.prog.wantsStandIn t = false by simpa using List.all_eq_true.1 hall t hm)⟩)
  (by kernel_rfl)
end Go.Proofs.YtiebldaihnbkmaaGreatDoor.nfaWeight
namespace Go.Proofs.YtiebldaihnbkmaaGreatDoor
theorem nfaWeight_holds : Rows.NfaWeightCardSaid := nfaWeight.card
end Go.Proofs.YtiebldaihnbkmaaGreatDoor

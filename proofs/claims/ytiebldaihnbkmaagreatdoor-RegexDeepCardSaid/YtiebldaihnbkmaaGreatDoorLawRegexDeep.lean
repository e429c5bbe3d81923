/-
  What is proved here: rotuluslaw14.RegexDeep answers true for all texts and numbers (its walk is RegexDeep_fn). No conditions.
-/
import Derived.Test.YtiebldaihnbkmaaGreatDoorUJ
import Derived.Test.YtiebldaihnbkmaaGreatDoorB16
import Derived.Test.YtiebldaihnbkmaaGreatDoorRD
import Derived.Lib.LaidU8T
import Derived.Test.YtiebldaihnbkmaaGreatDoorTie
import Derived.Test.YtiebldaihnbkmaaGreatDoorCards
import Derived.WalkKit
import Derived.ProofKit
import Derived.OpenShut
import Derived.ShutString
import Derived.ChangeOld
import Derived.Below
import Derived.Carry
import Derived.Lay
import Derived.LaidOnce
import Derived.SevenTiedAt
import Derived.Deep.DeepHandedRow
import Derived.SizedLaws
set_option linter.unusedVariables false
set_option linter.unusedSimpArgs false
namespace Go.Proofs.YtiebldaihnbkmaaGreatDoor.regexDeep
open Go.ChangeShapes Go.WideShapes Go.ChangeAt Go.RowKit
open Go.ChangeMaps (open_string shut_string)
set_option linter.unusedVariables false
set_option maxRecDepth 100000
theorem own : ownKnob Tryz.prog.godebug = none := by kernel_rfl
theorem walk {W : World} (ht : Vai.TW W) (a0 : ByteArray) (ha0 : a0.size ≤ 140737488351232) (z1 : Int) (hz1 : -9223372036854775808 ≤ z1 ∧ z1 < 9223372036854775808) :
  Calls Tryz.prog 12 #[Value.string a0, Value.int .i64 z1] W fun e w' => e = .returned (.bool true) ∧ Below W.heap.size W w' :=
 Vai.plain_pure mixed16 ov_ok (ds := [Vai.D.str a0, Vai.D.int .i64 z1]) (vs := [Value.string a0, Value.int .i64 z1]) (.cons (show Vai.CR _ Vai.a0 (.str a0) (.string a0) from .str) (.cons (show Vai.CR _ Vai.a0 (.int .i64 z1) (.int .i64 z1) from .int) .nil)) rfl (RegexDeep_fn a0 z1 ha0 hz1) W ht
theorem first_eq : Rows.laid_unicode_utf8_first = Lib.firstData := by kernel_rfl
theorem accept_eq : Rows.laid_unicode_utf8_acceptRanges = Lib.acceptData := by kernel_rfl
theorem first_in : (("unicode/utf8.first", Lib.firstData) : String × DataW Unit) ∈ Rows.regexDeepRow.laid := by
 rw [← first_eq]; exact .tail _ (.tail _ (.tail _ (.tail _ (.head _))))
theorem accept_in : (("unicode/utf8.acceptRanges", Lib.acceptData) : String × DataW Unit) ∈ Rows.regexDeepRow.laid := by
 rw [← accept_eq]; exact .tail _ (.tail _ (.tail _ (.head _)))
theorem tabs {W : World} (hL : laidMet Tryz.prog Rows.regexDeepRow.laid W) : Vai.TW W :=
 utf8Tabs_of_readsT (P := Tryz.prog) (ρ := renV) (U8Types.of196 laysV) ⟨by kernel_rfl, by kernel_rfl, by kernel_rfl, by kernel_rfl, by kernel_rfl, by kernel_rfl, by kernel_rfl⟩
  (Lib.laidMet.reads hL (d := Lib.firstData) (show ("unicode/utf8.first", Lib.firstData) ∈ Rows.regexDeepRow.laid from first_in)) (Lib.laidMet.reads hL (d := Lib.acceptData) (show ("unicode/utf8.acceptRanges", Lib.acceptData) ∈ Rows.regexDeepRow.laid from accept_in))
theorem lifted (os : Os) (started : os.Started) (H : Type) (enc : TypeId × Value → H) :
  ReturnsInHanded {} Tryz.checked os 12 .any (fun w args => (Rows.regexDeepSpec.pre enc Tryz.prog Tryz.f12 [] false w args ∧ laidMetH Tryz.prog Rows.regexDeepRow.laid w) ∧ sizedMet enc Tryz.prog Tryz.f12 (OpenSpec.ofChange Rows.regexDeepSpec) false w args) (Rows.regexDeepSpec.post enc Tryz.prog Tryz.f12 false true false false) := by
 refine returnsInHanded_of_change_and (C := Tryz.checked) (X := fun w _ => laidMetH Tryz.prog Rows.regexDeepRow.laid w) (fun _ _ _ hh h => h.of_heap hh) own started (by kernel_rfl) Tryz.func12
  (ChangeSpec.witness_shaped (enc := enc) (C := Tryz.checked) (os := os) (X := fun w _ => laidMetH Tryz.prog Rows.regexDeepRow.laid w) false (World.laidAll Tryz.prog os Rows.regexDeepRow.laid) #[.string ByteArray.empty, .int .i64 0] 8 (World.laidAll_os _ _ _)
   (World.shaped_of_ZipB (by kernel_rfl) (by kernel_rfl)) (by kernel_rfl) (by kernel_rfl) (by kernel_rfl)
   (by rw [MakeChecks.laidMetH_plain _ _ _ (by kernel_rfl)]; exact laidMet_laidAll _ (by kernel_rfl) (by kernel_rfl))) ?_
 intro W base args ds gs before hval0 hW hcnd hsz0 hL _
 rw [MakeChecks.laidMetH_plain _ _ _ (by kernel_rfl)] at hL
 have ht := tabs hL
 have hsz : (DataW.weightsEach Tryz.prog (Tryz.f12.params.toList ++ Rows.regexDeepSpec.plain.varTypes Tryz.prog) (ds ++ gs)).all (· ≤ reachBytes) = true := hsz0
 have hval : ∀ (j : Nat) t v, Tryz.f12.params[j]? = some t → args[j]? = some v → Value.okWide Tryz.prog W .any base t v := hval0
 have hW' := hW
 obtain ⟨p, q, hA0, hV, rfl, hfz, hnd⟩ := hW
 have hA : DataW.TrodAll enc Tryz.prog W 0 (fun _ => true) true Tryz.f12.params.toList args.toList ds p := hA0
 rw [Tryz.params12] at hA hval hsz
 obtain ⟨v0, vs0, d0, ds0, p0, q0, hargs, rfl, rfl, h0, r0⟩ := trodAll_cons hA
 obtain ⟨v1, vs1, d1, ds1, p1, q1, rfl, rfl, rfl, h1, r1⟩ := trodAll_cons r0
 obtain ⟨rfl, rfl, rfl⟩ := trodAll_nil r1
 obtain rfl : args = #[v0, v1] := by cases args; simp_all
 obtain ⟨rfl, rfl⟩ := trodVars_none hV
 obtain ⟨a0, rfl, rfl, rfl, y0⟩ := open_string Tryz.underlying9 (hval 0 9 v0 rfl rfl) h0
 have w0 : a0.size ≤ 140737488351232 := by
  have z := sized_string hsz (j := 0) (t := 9) rfl rfl
  rw [Array.length_toList] at z
  exact z
 obtain ⟨z1, rfl, rfl, rfl, y1⟩ := open_int Tryz.underlying3 (hval 1 3 v1 rfl rfl) h1
 clear hA0 hval0 hsz0 hsz
 refine (walk ht a0 w0 z1 (by have := Go.bounds_i64 y1; omega)).mono fun e W' ⟨he, bel⟩ => ?_
 subst he
 exact ⟨_, rfl, _, _, _, [], _, [], hW', trodAll_mk1 (shut_bool Tryz.underlying4 _), (trodAll_cons_mk (shut_string Tryz.underlying9 y0) (trodAll_cons_mk (shut_int Tryz.underlying3 y1) trodAll_mk0)), rfl, bel.frame _, fun h => by cases h⟩
theorem over : Rows.regexDeepRow.holds Tryz.pinned (OpenSpec.ofChange Rows.regexDeepSpec) :=
 OpenClaim.holds_of_wide 12 Tryz.f12 rfl rfl rfl rfl rfl rfl rfl ⟨rfl, rfl, rfl, rfl, rfl⟩ rfl rfl rfl rfl rfl (by kernel_rfl) Tryz.func12 (by kernel_rfl)
  (of_decide_eq_true (by kernel_rfl)) (by unfold Func.isWrapper; first | (rw [if_pos (by decide +kernel)]; kernel_rfl) | (rw [if_neg (by decide +kernel)]; exact ⟨rfl, rfl⟩))
  (fun os started H enc _ => lifted os started H enc)
theorem card : Rows.RegexDeepCardSaid :=
 Claim7.holds_tied_plain_at .later [] [.data, .data, .data, .data, .pinned] true (true, "d117c101de34bf04ca5e6daf347c683be796a753d16d7b155956bbd42096410a") false over (fun _ h => by cases h) (by kernel_rfl) (fun _ h => by cases h) regexDeep_row_tie rfl ⟨rfl, rfl⟩ (by kernel_rfl) rfl
  (fun f fn hf hfn => by
   obtain rfl : f = 12 := Option.some.inj ((show Tryz.prog.funcNamed "rotulus/rotuluslaw14.RegexDeep" = some 12 by kernel_rfl).symm.trans hf) |>.symm
   obtain rfl : fn = Tryz.f12 := (Option.some.inj (Tryz.func12.symm.trans hfn)).symm
   exact ⟨by kernel_rfl, fun j t ht => by
    rw [Tryz.params12] at ht
    have hm : t ∈ (Tryz.f12.params.toList) := by
     have := Array.mem_of_getElem? ht
     rw [Tryz.params12]; simpa using this
    have hall : (Tryz.f12.params.toList.all fun u => !Tryz.prog.wantsStandIn u) = true := by kernel_rfl
    exact (show Tryz.prog.wantsStandIn t = false by simpa using List.all_eq_true.1 hall t hm)⟩)
  (by kernel_rfl)
end Go.Proofs.YtiebldaihnbkmaaGreatDoor.regexDeep
namespace Go.Proofs.YtiebldaihnbkmaaGreatDoor
theorem regexDeep_holds : Rows.RegexDeepCardSaid := regexDeep.card
end Go.Proofs.YtiebldaihnbkmaaGreatDoor

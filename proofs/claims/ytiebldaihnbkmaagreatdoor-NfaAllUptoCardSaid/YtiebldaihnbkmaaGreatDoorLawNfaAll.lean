/-
  What is proved here: rotuluslaw14.NfaAll answers true for every pattern, text and place whose bulk is at most 1048576 (its walk is NfaAll_fn). No conditions.
-/
import Derived.Test.YtiebldaihnbkmaaGreatDoorNW
import Derived.Test.YtiebldaihnbkmaaGreatDoorNZ
import Derived.Test.YtiebldaihnbkmaaGreatDoorB16
import Derived.Test.YtiebldaihnbkmaaGreatDoorTie
import Derived.Test.YtiebldaihnbkmaaGreatDoorCards
import Derived.WalkKit
import Derived.ProofKit
import Derived.OpenShut
import Derived.ShutString
import Derived.ChangeOld
import Derived.Below
import Derived.Carry
import Derived.Lay
import Derived.LaidOnce
import Derived.SevenTiedAt
import Derived.Deep.DeepHandedRow
set_option linter.unusedVariables false
set_option linter.unusedSimpArgs false
namespace Go.Proofs.YtiebldaihnbkmaaGreatDoor.nfaAll
open Go.ChangeShapes Go.WideShapes Go.ChangeAt Go.RowKit
open Go.ChangeMaps (open_string shut_string)
set_option linter.unusedVariables false
set_option maxRecDepth 100000
theorem own : ownKnob Tryz.prog.godebug = none := by kernel_rfl
theorem ov_ok : Vai.OvOk Tryz.prog ov := Vai.ovs_ok fun f hf w => by
  simp at hf; subst hf
  exact begun16 w
theorem fn_ok {n : Nfa.Nd} (hf : Vai.fit n) (hz : Nfa.size n < 4611686018427387904) (s : ByteArray) (hs : s.size ≤ 1048576) (z : Int) : Vai.PureD Tryz.prog ov 6 [.agg (Vai.encN n), .str s, .int .i64 z] (.bool true) := by
  cases n with
  | mk k set no kids mn mx =>
    rw [Vai.encN]
    exact NfaAll_fn k set no kids mn mx s z hf hz hs
theorem rest_ok (a : Vai.AH) (s : ByteArray) (z : Int) : Vai.F2 (Vai.D1 (Vai.MM (fun _ => False) []) [] a) [Vai.D.str s, Vai.D.int .i64 z] [Value.string s, Value.int .i64 z] :=
  .cons (show Vai.CR _ a (.str s) (.string s) from .str) (.cons (show Vai.CR _ a (.int .i64 z) (.int .i64 z) from .int) .nil)
theorem walk {W : World} {t : Vai.WN} (ho : t.ok W) (hf : Vai.fit t.nd) (hz : Nfa.size t.nd < 4611686018427387904) (s : ByteArray) (hs : s.size ≤ 1048576) (z : Int) :
    Calls Tryz.prog 6 #[.agg t.cells.toArray, .string s, .int .i64 z] W fun e w' => e = .returned (.bool true) ∧ Below W.heap.size W w' := by
  have k := Vai.node_call (f := 6) (ov := ov) mixed16 ov_ok ho (rest_ok _ s z) rfl (fn_ok hf hz s hs z)
  have e : (#[Value.agg t.cells.toArray] ++ [Value.string s, Value.int .i64 z].toArray) = #[.agg t.cells.toArray, .string s, .int .i64 z] := by simp
  rw [e] at k
  exact k
theorem under34 : ∃ fs, Tryz.prog.underlying 34 = some (.struct fs) := by
  have h : (match Tryz.prog.underlying 34 with | some (.struct _) => true | _ => false) = true := by kernel_rfl
  split at h
  · rename_i fs e; exact ⟨fs, e⟩
  · cases h
theorem laid_ok : laidOutB Tryz.prog = true := by kernel_rfl
theorem read34 : Tryz.prog.readableRec 34 = true := by kernel_rfl
theorem row34 : 34 < Tryz.prog.types.size := of_decide_eq_true (by kernel_rfl)
theorem contract (H : Type) (enc : TypeId × Value → H) (W : World) (base : Nat) (args : Array Value) (ds gs : List (DataW H)) (before : List MemPlace)
    (hval : ∀ (j : Nat) t v, Tryz.f6.params[j]? = some t → args[j]? = some v → Value.okWide Tryz.prog W .any base t v)
    (hW : DataW.Whole enc Tryz.prog Tryz.f6.params.toList Rows.nfaAllSpec.vars false W args.toList ds gs before) (hb : Rows.uptoBulkAll (ds ++ gs) ≤ 1048576) :
    Calls Tryz.prog 6 args W fun e W' => ∃ v, e = .returned v ∧ Rows.nfaAllSpec.post enc Tryz.prog Tryz.f6 false true false false W args v W' := by
  have hW' := hW
  obtain ⟨p, q, hA0, hV, rfl, hfz, hnd⟩ := hW
  have hA : DataW.TrodAll enc Tryz.prog W 0 (fun _ => true) true Tryz.f6.params.toList args.toList ds p := hA0
  rw [Tryz.params6] at hA hval
  obtain ⟨v0, vs0, d0, ds0, p0, q0, hargs, rfl, rfl, h0, r0⟩ := trodAll_cons hA
  obtain ⟨v1, vs1, d1, ds1, p1, q1, rfl, rfl, rfl, h1, r1⟩ := trodAll_cons r0
  obtain ⟨v2, vs2, d2, ds2, p2, q2, rfl, rfl, rfl, h2, r2⟩ := trodAll_cons r1
  obtain ⟨rfl, rfl, rfl⟩ := trodAll_nil r2
  obtain rfl : args = #[v0, v1, v2] := by cases args; simp_all
  obtain ⟨rfl, rfl⟩ := trodVars_none hV
  simp only [Rows.uptoBulkAll, List.append_nil] at hb
  obtain ⟨a1, rfl, rfl, rfl, y1⟩ := open_string Tryz.underlying9 (hval 1 9 v1 rfl rfl) h1
  obtain ⟨z, rfl, rfl, rfl, w2⟩ := open_int Tryz.underlying3 (hval 2 3 v2 rfl rfl) h2
  have hsz : a1.size ≤ 1048576 := by
    have e : Rows.uptoBulk (DataW.lit (H := H) (.string a1.data.toList)) = a1.data.toList.length + 1 := by simp only [Rows.uptoBulk]
    rw [e, Array.length_toList] at hb
    have : a1.data.size = a1.size := rfl
    omega
  obtain ⟨fs, hfs⟩ : ∃ fs, Tryz.prog.underlying 34 = some (.struct fs) := under34
  obtain ⟨cs, rfl, hcs⟩ := okWide_struct hfs (hval 0 34 v0 rfl rfl)
  have h0' := h0
  obtain ⟨fuel, hfu⟩ := h0
  have hf0 : W.noneFrozen p0 := free_sub hfz fun x hx => by simp [hx]
  obtain ⟨t, t1, t2, t3, t4⟩ := node_read _ fuel cs.toList d0 p0 (Nat.le_refl _) hfu hf0 (by omega)
  have ecs : cs = t.cells.toArray := by rw [t1]
  subst ecs
  refine (walk t2 t3 (by omega) a1 hsz z).mono fun e W' ⟨he, bel⟩ => ?_
  subst he
  exact ⟨_, rfl, _, _, _, [], _, [], hW', trodAll_mk1 (shut_bool Tryz.underlying4 _), (trodAll_cons_mk (Below.trod laid_ok read34 row34 h0' bel (fun x hx => DataW.TrodAll.lt hA0 x (by simp [hx]))) (trodAll_cons_mk (shut_string Tryz.underlying9 y1) (trodAll_cons_mk (shut_int Tryz.underlying3 w2) trodAll_mk0))), rfl, bel.frame _, fun h => by cases h⟩
noncomputable def wit : Array Value := #[.agg #[.int .i64 0, .slice none 0 0, .bool false, .slice none 0 0, .int .i64 0, .int .i64 0], .string ByteArray.empty, .int .i64 0]
theorem reads (os : Os) {H : Type} (enc : TypeId × Value → H) : ∃ ds places, DataW.whole enc Tryz.prog ((World.laidAll Tryz.prog os Rows.nfaAllUptoRow.laid).forCall (fun _ _ => 0) ⟨#[], wit, []⟩).memory Tryz.f6.params.toList Rows.nfaAllSpec.vars false wit.toList 8 = some (ds, [], places) ∧ Rows.uptoSmall H (ds ++ []) = true :=
  ⟨[.agg [.lit (.int .i64 0), .nil, .lit (.bool false), .nil, .lit (.int .i64 0), .lit (.int .i64 0)], .lit (.string []), .lit (.int .i64 0)], [], by kernel_rfl, by kernel_rfl⟩
theorem lifted (os : Os) (started : os.Started) (H : Type) (enc : TypeId × Value → H) (F : Stop.Interp) :
    ReturnsInHanded {} Tryz.checked os 6 .any ((Rows.OpenSpec.upto Rows.nfaAllSpec).preRow enc Tryz.prog Tryz.f6 Rows.nfaAllUptoRow.domain false Rows.nfaAllUptoRow.laid) (((Rows.OpenSpec.upto Rows.nfaAllSpec).at F).post enc Tryz.prog Tryz.f6 false true false false) := by
  obtain ⟨ds, places, hx, hs⟩ := reads os enc
  refine returnsInHanded_of_row (C := Tryz.checked) (s := Rows.OpenSpec.upto Rows.nfaAllSpec) own started (by kernel_rfl) Tryz.func6
    (witness_row_at (enc := enc) (C := Tryz.checked) false (World.laidAll Tryz.prog os Rows.nfaAllUptoRow.laid) wit (World.laidAll_os _ _ _) (by kernel_rfl) (by kernel_rfl) (by kernel_rfl)
      (OpenSpec.preRow_of_cond 8 hx (by kernel_rfl) (fun k hk => by cases hk; exact hs) (by kernel_rfl) (laidMet_laidAll _ (by kernel_rfl) (by kernel_rfl)))) ?_
  intro W base args ds gs before hval hW _ hcond _ hL _ _
  have hb := of_decide_eq_true (hcond _ rfl)
  exact contract H enc W base args ds gs before hval hW hb
theorem over : Rows.NfaAllUptoSaid :=
  OpenClaim.holds_of_cond 6 Tryz.f6 rfl rfl rfl rfl rfl rfl rfl ⟨rfl, rfl, rfl, rfl, rfl⟩ rfl rfl rfl rfl rfl (by kernel_rfl) Tryz.func6 (by kernel_rfl)
    (of_decide_eq_true (by kernel_rfl)) (by unfold Func.isWrapper; first | (rw [if_pos (by decide +kernel)]; kernel_rfl) | (rw [if_neg (by decide +kernel)]; exact ⟨rfl, rfl⟩))
    (fun os started H enc _ F => by rw [OpenClaim.pre_eq_preRow]; exact lifted os started H enc F)
theorem card : Rows.NfaAllUptoCardSaid :=
  Claim7.holds_tied_plain_at .later [] [.data, .data, .data, .data, .pinned] true (true, "d117c101de34bf04ca5e6daf347c683be796a753d16d7b155956bbd42096410a") false over (fun _ h => by cases h) (by kernel_rfl) (fun _ h => by cases h) nfaAllUpto_row_tie rfl ⟨rfl, rfl⟩ (by kernel_rfl) rfl
    (fun f fn hf hfn => by
      obtain rfl : f = 6 := Option.some.inj ((show Tryz.prog.funcNamed "rotulus/rotuluslaw14.NfaAll" = some 6 by kernel_rfl).symm.trans hf) |>.symm
      obtain rfl : fn = Tryz.f6 := (Option.some.inj (Tryz.func6.symm.trans hfn)).symm
      exact ⟨by kernel_rfl, fun j t ht => by
        rw [Tryz.params6] at ht
        have hm : t ∈ (Tryz.f6.params.toList) := by
          have := Array.mem_of_getElem? ht
          rw [Tryz.params6]; simpa using this
        have hall : (Tryz.f6.params.toList.all fun u => !Tryz.prog.wantsStandIn u) = true := by kernel_rfl
        exact (show Tryz.prog.wantsStandIn t = false by simpa using List.all_eq_true.1 hall t hm)⟩)
    (by kernel_rfl)
end Go.Proofs.YtiebldaihnbkmaaGreatDoor.nfaAll
namespace Go.Proofs.YtiebldaihnbkmaaGreatDoor
theorem nfaAll_holds : Rows.NfaAllUptoCardSaid := nfaAll.card
end Go.Proofs.YtiebldaihnbkmaaGreatDoor

/-
  What is proved here: rotuluslaw22.StackNone answers true (a closed law). No conditions.
-/
import Derived.Test.YtmmmjbipgngamaaGreatDoorVX
import Derived.Test.YtmmmjbipgngamaaGreatDoorVY
import Derived.Test.YtmmmjbipgngamaaGreatDoorTie
import Derived.Test.YtmmmjbipgngamaaGreatDoorCards
import Derived.WalkKit
import Derived.ProofKit
import Derived.OpenShut
import Derived.ShutString
import Derived.ChangeOld
import Derived.Below
import Derived.Carry
import Derived.Lay
import Derived.LaidOnce
import Derived.SevenTiedAt
import Derived.Deep.DeepHandedRow
import Derived.SizedLaws
set_option linter.unusedVariables false
set_option linter.unusedSimpArgs false
namespace Go.Proofs.YtmmmjbipgngamaaGreatDoor.stackNone
open Go.ChangeShapes Go.WideShapes Go.ChangeAt Go.RowKit
open Go.ChangeMaps (open_string shut_string)
set_option maxRecDepth 100000
theorem own:ownKnob Tryz.prog.godebug=none:=by kernel_rfl
theorem runs:Vai.X1f (Vai.X2h Tryz.prog (ovT (Vai.ovs [8])) 1000000 (.func 7) [] Vai.h0)=true:=by kernel_rfl
theorem walk {W:World} (ht:Vai.TW W):Calls Tryz.prog 7 #[] W fun e w'=>e=.returned (.bool true)∧Below W.heap.size W w' :=
 Vai.X0d X1W (X64 (Vai.X4S (l:=[8]) (fun f hf=>by simp only [List.mem_singleton]at hf;subst hf;exact said8))) (args:=[]) rfl runs W ht
theorem contract (H:Type) (enc:TypeId×Value→H) (W:World) (base:Nat) (args:Array Value) (ds gs:List (DataW H)) (before:List MemPlace)
  (hval:∀ (j:Nat) t v,Tryz.f7.params[j]?=some t→args[j]?=some v→Value.okWide Tryz.prog W .any base t v)
  (hW:DataW.Whole enc Tryz.prog Tryz.f7.params.toList Rows.stackNoneSpec.vars false W args.toList ds gs before)
  (hsz:(DataW.weightsEach Tryz.prog (Tryz.f7.params.toList++(OpenSpec.ofChange Rows.stackNoneSpec).bare.plain.varTypes Tryz.prog) (ds++gs)).all (·≤reachBytes)=true) (ht:Vai.TW W) :
  Calls Tryz.prog 7 args W fun e W'=>∃ v,e=.returned v∧Rows.stackNoneSpec.post enc Tryz.prog Tryz.f7 false true false false W args v W':=by
 have hW':=hW
 obtain⟨p,q,hA0,hV,rfl,hfz,hnd⟩:=hW
 have hA:DataW.TrodAll enc Tryz.prog W 0 (fun _=>true) true Tryz.f7.params.toList args.toList ds p:=hA0
 rw [Tryz.params7]at hA
 obtain⟨rfl,rfl,rfl⟩:=trodAll_none hA
 obtain⟨rfl,rfl⟩:=trodVars_none hV
 simp only [List.append_nil]at hW'
 refine(walk ht).mono fun e W' ⟨he,bel⟩=>?_
 subst he
 exact⟨_,rfl,_,_,_,[],_,[],hW',trodAll_mk1 (shut_bool Tryz.underlying4 _),trodAll_mk0,rfl,bel.frame _,fun h=>by cases h⟩
noncomputable def wit:Array Value:=#[]
theorem reads (os:Os) {H:Type} (enc:TypeId×Value→H):∃ ds places,DataW.whole enc Tryz.prog ((World.laidAll Tryz.prog os Rows.stackNoneRow.laid).forCall (fun _ _=>0) ⟨#[],wit,[]⟩).memory Tryz.f7.params.toList Rows.stackNoneSpec.vars false wit.toList 8=some (ds,[],places) :=
 ⟨[],[],by kernel_rfl⟩
theorem lifted (os:Os) (started:os.Started) (H:Type) (enc:TypeId×Value→H) (F:Stop.Interp) :
  ReturnsInHanded {} Tryz.checked os 7 .any ((OpenSpec.ofChange Rows.stackNoneSpec).preRow enc Tryz.prog Tryz.f7 Rows.stackNoneRow.domain false Rows.stackNoneRow.laid) (((OpenSpec.ofChange Rows.stackNoneSpec).at F).post enc Tryz.prog Tryz.f7 false true false false):=by
 obtain⟨ds,places,hx⟩:=reads os enc
 refine returnsInHanded_of_row (C:=Tryz.checked) (s:=(OpenSpec.ofChange Rows.stackNoneSpec)) own started (by kernel_rfl) Tryz.func7
  (witness_row_at (enc:=enc) (C:=Tryz.checked) false (World.laidAll Tryz.prog os Rows.stackNoneRow.laid) wit (World.laidAll_os _ _ _) (by kernel_rfl) (by kernel_rfl) (by kernel_rfl)
   (OpenSpec.preRow_of_cond 8 hx (by kernel_rfl) (fun k hk=>by cases hk) (by kernel_rfl) (laidMet_laidAll _ (by kernel_rfl) (by kernel_rfl)))) ?_
 intro W base args ds gs before hval hW _ hcond hsz hL hS _
 exact contract H enc W base args ds gs before hval hW hsz (tabs (.tail _ (.tail _ (.head _))) hL hS)
theorem over:Rows.StackNoneSaid :=
 OpenClaim.holds_of_cond 7 Tryz.f7 rfl rfl rfl rfl rfl rfl rfl ⟨rfl,rfl,rfl,rfl,rfl⟩ rfl rfl rfl rfl rfl (by kernel_rfl) Tryz.func7 (by kernel_rfl)
  (of_decide_eq_true (by kernel_rfl)) (by unfold Func.isWrapper;first | (rw [if_pos (by decide +kernel)];kernel_rfl) | (rw [if_neg (by decide +kernel)];exact⟨rfl,rfl⟩))
  (fun os started H enc _ F=>by rw [OpenClaim.pre_eq_preRow];exact lifted os started H enc F)
theorem card:Rows.StackNoneCardSaid :=
 Claim7.holds_tied_plain_at .later [] [.data,.data,.data,.data,.pinned] true (true, "9dc944f17b9addf6bd9c0ba42540359c7232916effbf8d1ffb6abab67d9cba7b") false over (fun _ h=>by cases h) (by kernel_rfl) (fun _ h=>by cases h) stackNone_row_tie rfl ⟨rfl,rfl⟩ (by kernel_rfl) rfl
  (fun f fn hf hfn=>by
   obtain rfl:f=7:=Option.some.inj ((show Tryz.prog.funcNamed "rotulus/rotuluslaw22.StackNone" = some 7 by kernel_rfl).symm.trans hf) |>.symm
   obtain rfl:fn=Tryz.f7:=(Option.some.inj (Tryz.func7.symm.trans hfn)).symm
   exact⟨by kernel_rfl,fun j t ht=>by
    rw [Tryz.params7]at ht
    have hm:t∈(Tryz.f7.params.toList):=by
     have:=Array.mem_of_getElem? ht
     rw [Tryz.params7];simp at this
    have hall:(Tryz.f7.params.toList.all fun u=>!Tryz.prog.wantsStandIn u)=true:=by kernel_rfl
    exact(show Tryz.prog.wantsStandIn t=false by simpa using List.all_eq_true.1 hall t hm)⟩)
  (by kernel_rfl)
end Go.Proofs.YtmmmjbipgngamaaGreatDoor.stackNone
namespace Go.Proofs.YtmmmjbipgngamaaGreatDoor
theorem stackNone_holds:Rows.StackNoneCardSaid:=stackNone.card
end Go.Proofs.YtmmmjbipgngamaaGreatDoor

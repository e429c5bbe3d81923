/-
  What is proved here: rotuluslaw22.StackRoom answers true for all texts and numbers (its walk is StackRoom_fn). No conditions.
-/
import Derived.Test.YtmmmjbipgngamaaGreatDoorSKk
import Derived.Test.YtmmmjbipgngamaaGreatDoorVY
import Derived.Test.YtmmmjbipgngamaaGreatDoorRD
import Derived.Test.YtmmmjbipgngamaaGreatDoorTie
import Derived.Test.YtmmmjbipgngamaaGreatDoorCards
import Derived.WalkKit
import Derived.ProofKit
import Derived.OpenShut
import Derived.ShutString
import Derived.ChangeOld
import Derived.Below
import Derived.Carry
import Derived.Lay
import Derived.LaidOnce
import Derived.SevenTiedAt
import Derived.Deep.DeepHandedRow
import Derived.SizedLaws
set_option linter.unusedVariables false
set_option linter.unusedSimpArgs false
namespace Go.Proofs.YtmmmjbipgngamaaGreatDoor.stackRoom
open Go.ChangeShapes Go.WideShapes Go.ChangeAt Go.RowKit
open Go.ChangeMaps (open_string shut_string)
set_option maxRecDepth 100000
theorem own:ownKnob Tryz.prog.godebug=none:=by kernel_rfl
theorem walk {W:World} (ht:Vai.TW W) (z0:Int) (y0 : -9223372036854775808≤z0∧z0<9223372036854775808) (z1:Int) (y1 : -9223372036854775808≤z1∧z1<9223372036854775808) :
  Calls Tryz.prog 4 #[Value.int .i64 z0,Value.int .i64 z1] W fun e w'=>e=.returned (.bool true)∧Below W.heap.size W w' :=
 Vai.X87 X35 XDM (ds:=[Vai.D.int .i64 z0,Vai.D.int .i64 z1]) (vs:=[Value.int .i64 z0,Value.int .i64 z1]) (.cons (show Vai.CR _ Vai.a0 (.int .i64 z0) (.int .i64 z0)from .int) (.cons (show Vai.CR _ Vai.a0 (.int .i64 z1) (.int .i64 z1)from .int) .nil)) rfl (X65 z0 z1 y0 y1) W ht
theorem contract (H:Type) (enc:TypeId×Value→H) (W:World) (base:Nat) (args:Array Value) (ds gs:List (DataW H)) (before:List MemPlace)
  (hval:∀ (j:Nat) t v,Tryz.f4.params[j]?=some t→args[j]?=some v→Value.okWide Tryz.prog W .any base t v)
  (hW:DataW.Whole enc Tryz.prog Tryz.f4.params.toList Rows.stackRoomSpec.vars false W args.toList ds gs before)
  (hsz:(DataW.weightsEach Tryz.prog (Tryz.f4.params.toList++(OpenSpec.ofChange Rows.stackRoomSpec).bare.plain.varTypes Tryz.prog) (ds++gs)).all (·≤reachBytes)=true) (ht:Vai.TW W) :
  Calls Tryz.prog 4 args W fun e W'=>∃ v,e=.returned v∧Rows.stackRoomSpec.post enc Tryz.prog Tryz.f4 false true false false W args v W':=by
 have hW':=hW
 obtain⟨p,q,hA0,hV,rfl,hfz,hnd⟩:=hW
 have hA:DataW.TrodAll enc Tryz.prog W 0 (fun _=>true) true Tryz.f4.params.toList args.toList ds p:=hA0
 rw [Tryz.params4]at hA hval hsz
 obtain⟨v0,vs0,d0,ds0,p0,q0,hargs,rfl,rfl,h0,r0⟩:=trodAll_cons hA
 obtain⟨v1,vs1,d1,ds1,p1,q1,rfl,rfl,rfl,h1,r1⟩:=trodAll_cons r0
 obtain⟨rfl,rfl,rfl⟩:=trodAll_nil r1
 obtain rfl:args=#[v0,v1]:=by cases args;simp_all
 obtain⟨rfl,rfl⟩:=trodVars_none hV
 obtain⟨z0,rfl,rfl,rfl,y0⟩:=open_int Tryz.underlying3 (hval 0 3 v0 rfl rfl) h0
 obtain⟨z1,rfl,rfl,rfl,y1⟩:=open_int Tryz.underlying3 (hval 1 3 v1 rfl rfl) h1
 clear hsz
 refine(walk ht z0 (by have:=Go.bounds_i64 y0;omega) z1 (by have:=Go.bounds_i64 y1;omega)).mono fun e W' ⟨he,bel⟩=>?_
 subst he
 exact⟨_,rfl,_,_,_,[],_,[],hW',trodAll_mk1 (shut_bool Tryz.underlying4 _),(trodAll_cons_mk (shut_int Tryz.underlying3 y0) (trodAll_cons_mk (shut_int Tryz.underlying3 y1) trodAll_mk0)),rfl,bel.frame _,fun h=>by cases h⟩
noncomputable def wit:Array Value:=#[.int .i64 0,.int .i64 0]
theorem reads (os:Os) {H:Type} (enc:TypeId×Value→H):∃ ds places,DataW.whole enc Tryz.prog ((World.laidAll Tryz.prog os Rows.stackRoomRow.laid).forCall (fun _ _=>0) ⟨#[],wit,[]⟩).memory Tryz.f4.params.toList Rows.stackRoomSpec.vars false wit.toList 8=some (ds,[],places) :=
 ⟨[.lit (.int .i64 0),.lit (.int .i64 0)],[],by kernel_rfl⟩
theorem lifted (os:Os) (started:os.Started) (H:Type) (enc:TypeId×Value→H) (F:Stop.Interp) :
  ReturnsInHanded {} Tryz.checked os 4 .any ((OpenSpec.ofChange Rows.stackRoomSpec).preRow enc Tryz.prog Tryz.f4 Rows.stackRoomRow.domain false Rows.stackRoomRow.laid) (((OpenSpec.ofChange Rows.stackRoomSpec).at F).post enc Tryz.prog Tryz.f4 false true false false):=by
 obtain⟨ds,places,hx⟩:=reads os enc
 refine returnsInHanded_of_row (C:=Tryz.checked) (s:=(OpenSpec.ofChange Rows.stackRoomSpec)) own started (by kernel_rfl) Tryz.func4
  (witness_row_at (enc:=enc) (C:=Tryz.checked) false (World.laidAll Tryz.prog os Rows.stackRoomRow.laid) wit (World.laidAll_os _ _ _) (by kernel_rfl) (by kernel_rfl) (by kernel_rfl)
   (OpenSpec.preRow_of_cond 8 hx (by kernel_rfl) (fun k hk=>by cases hk) (by kernel_rfl) (laidMet_laidAll _ (by kernel_rfl) (by kernel_rfl)))) ?_
 intro W base args ds gs before hval hW _ hcond hsz hL hS _
 exact contract H enc W base args ds gs before hval hW hsz (tabs (.tail _ (.tail _ (.head _))) hL hS)
theorem over:Rows.StackRoomSaid :=
 OpenClaim.holds_of_cond 4 Tryz.f4 rfl rfl rfl rfl rfl rfl rfl ⟨rfl,rfl,rfl,rfl,rfl⟩ rfl rfl rfl rfl rfl (by kernel_rfl) Tryz.func4 (by kernel_rfl)
  (of_decide_eq_true (by kernel_rfl)) (by unfold Func.isWrapper;first | (rw [if_pos (by decide +kernel)];kernel_rfl) | (rw [if_neg (by decide +kernel)];exact⟨rfl,rfl⟩))
  (fun os started H enc _ F=>by rw [OpenClaim.pre_eq_preRow];exact lifted os started H enc F)
theorem card:Rows.StackRoomCardSaid :=
 Claim7.holds_tied_plain_at .later [] [.data,.data,.data,.data,.pinned] true (true, "9dc944f17b9addf6bd9c0ba42540359c7232916effbf8d1ffb6abab67d9cba7b") false over (fun _ h=>by cases h) (by kernel_rfl) (fun _ h=>by cases h) stackRoom_row_tie rfl ⟨rfl,rfl⟩ (by kernel_rfl) rfl
  (fun f fn hf hfn=>by
   obtain rfl:f=4:=Option.some.inj ((show Tryz.prog.funcNamed "rotulus/rotuluslaw22.StackRoom" = some 4 by kernel_rfl).symm.trans hf) |>.symm
   obtain rfl:fn=Tryz.f4:=(Option.some.inj (Tryz.func4.symm.trans hfn)).symm
   exact⟨by kernel_rfl,fun j t ht=>by
    rw [Tryz.params4]at ht
    have hm:t∈(Tryz.f4.params.toList):=by
     have:=Array.mem_of_getElem? ht
     rw [Tryz.params4];simpa using this
    have hall:(Tryz.f4.params.toList.all fun u=>!Tryz.prog.wantsStandIn u)=true:=by kernel_rfl
    exact(show Tryz.prog.wantsStandIn t=false by simpa using List.all_eq_true.1 hall t hm)⟩)
  (by kernel_rfl)
end Go.Proofs.YtmmmjbipgngamaaGreatDoor.stackRoom
namespace Go.Proofs.YtmmmjbipgngamaaGreatDoor
theorem stackRoom_holds:Rows.StackRoomCardSaid:=stackRoom.card
end Go.Proofs.YtmmmjbipgngamaaGreatDoor

/-
  What is proved here: rotuluslaw22.StackNames answers true for all texts and numbers (its walk is StackNames_fn). No conditions.
-/
import Derived.Test.YtmmmjbipgngamaaGreatDoorSKo
import Derived.Test.YtmmmjbipgngamaaGreatDoorVY
import Derived.Test.YtmmmjbipgngamaaGreatDoorRD
import Derived.Test.YtmmmjbipgngamaaGreatDoorTie
import Derived.Test.YtmmmjbipgngamaaGreatDoorCards
import Derived.WalkKit
import Derived.ProofKit
import Derived.OpenShut
import Derived.ShutString
import Derived.ChangeOld
import Derived.Below
import Derived.Carry
import Derived.Lay
import Derived.LaidOnce
import Derived.SevenTiedAt
import Derived.Deep.DeepHandedRow
import Derived.SizedLaws
set_option linter.unusedVariables false
set_option linter.unusedSimpArgs false
namespace Go.Proofs.YtmmmjbipgngamaaGreatDoor.stackNames
open Go.ChangeShapes Go.WideShapes Go.ChangeAt Go.RowKit
open Go.ChangeMaps (open_string shut_string)
set_option maxRecDepth 100000
theorem own:ownKnob Tryz.prog.godebug=none:=by kernel_rfl
theorem walk {W:World} (ht:Vai.TW W) (a0:ByteArray) (w0:a0.size≤140737488351232) (a1:ByteArray) (w1:a1.size≤140737488351232) (z2:Int) (y2 : -9223372036854775808≤z2∧z2<9223372036854775808) :
  Calls Tryz.prog 6 #[Value.string a0,Value.string a1,Value.int .i64 z2] W fun e w'=>e=.returned (.bool true)∧Below W.heap.size W w' :=
 Vai.X8T X3C XDr (ds:=[Vai.D.str a0,Vai.D.str a1,Vai.D.int .i64 z2]) (vs:=[Value.string a0,Value.string a1,Value.int .i64 z2]) (.cons (show Vai.CR _ Vai.a0 (.str a0) (.string a0)from .str) (.cons (show Vai.CR _ Vai.a0 (.str a1) (.string a1)from .str) (.cons (show Vai.CR _ Vai.a0 (.int .i64 z2) (.int .i64 z2)from .int) .nil))) rfl (X5l a0 a1 z2 w0 w1 y2) W ht
theorem contract (H:Type) (enc:TypeId×Value→H) (W:World) (base:Nat) (args:Array Value) (ds gs:List (DataW H)) (before:List MemPlace)
  (hval:∀ (j:Nat) t v,Tryz.f6.params[j]?=some t→args[j]?=some v→Value.okWide Tryz.prog W .any base t v)
  (hW:DataW.Whole enc Tryz.prog Tryz.f6.params.toList Rows.stackNamesSpec.vars false W args.toList ds gs before)
  (hsz:(DataW.weightsEach Tryz.prog (Tryz.f6.params.toList++(OpenSpec.ofChange Rows.stackNamesSpec).bare.plain.varTypes Tryz.prog) (ds++gs)).all (·≤reachBytes)=true) (ht:Vai.TW W) :
  Calls Tryz.prog 6 args W fun e W'=>∃ v,e=.returned v∧Rows.stackNamesSpec.post enc Tryz.prog Tryz.f6 false true false false W args v W':=by
 have hW':=hW
 obtain⟨p,q,hA0,hV,rfl,hfz,hnd⟩:=hW
 have hA:DataW.TrodAll enc Tryz.prog W 0 (fun _=>true) true Tryz.f6.params.toList args.toList ds p:=hA0
 rw [Tryz.params6]at hA hval hsz
 obtain⟨v0,vs0,d0,ds0,p0,q0,hargs,rfl,rfl,h0,r0⟩:=trodAll_cons hA
 obtain⟨v1,vs1,d1,ds1,p1,q1,rfl,rfl,rfl,h1,r1⟩:=trodAll_cons r0
 obtain⟨v2,vs2,d2,ds2,p2,q2,rfl,rfl,rfl,h2,r2⟩:=trodAll_cons r1
 obtain⟨rfl,rfl,rfl⟩:=trodAll_nil r2
 obtain rfl:args=#[v0,v1,v2]:=by cases args;simp_all
 obtain⟨rfl,rfl⟩:=trodVars_none hV
 obtain⟨a0,rfl,rfl,rfl,y0⟩:=open_string Tryz.underlying9 (hval 0 9 v0 rfl rfl) h0
 have w0:a0.size≤140737488351232:=by
  have z:=sized_string hsz (j:=0) (t:=9) rfl rfl
  rw [Array.length_toList]at z
  exact z
 obtain⟨a1,rfl,rfl,rfl,y1⟩:=open_string Tryz.underlying9 (hval 1 9 v1 rfl rfl) h1
 have w1:a1.size≤140737488351232:=by
  have z:=sized_string hsz (j:=1) (t:=9) rfl rfl
  rw [Array.length_toList]at z
  exact z
 obtain⟨z2,rfl,rfl,rfl,y2⟩:=open_int Tryz.underlying3 (hval 2 3 v2 rfl rfl) h2
 clear hsz
 refine(walk ht a0 w0 a1 w1 z2 (by have:=Go.bounds_i64 y2;omega)).mono fun e W' ⟨he,bel⟩=>?_
 subst he
 exact⟨_,rfl,_,_,_,[],_,[],hW',trodAll_mk1 (shut_bool Tryz.underlying4 _),(trodAll_cons_mk (shut_string Tryz.underlying9 y0) (trodAll_cons_mk (shut_string Tryz.underlying9 y1) (trodAll_cons_mk (shut_int Tryz.underlying3 y2) trodAll_mk0))),rfl,bel.frame _,fun h=>by cases h⟩
noncomputable def wit:Array Value:=#[.string ByteArray.empty,.string ByteArray.empty,.int .i64 0]
theorem reads (os:Os) {H:Type} (enc:TypeId×Value→H):∃ ds places,DataW.whole enc Tryz.prog ((World.laidAll Tryz.prog os Rows.stackNamesRow.laid).forCall (fun _ _=>0) ⟨#[],wit,[]⟩).memory Tryz.f6.params.toList Rows.stackNamesSpec.vars false wit.toList 8=some (ds,[],places) :=
 ⟨[.lit (.string []),.lit (.string []),.lit (.int .i64 0)],[],by kernel_rfl⟩
theorem lifted (os:Os) (started:os.Started) (H:Type) (enc:TypeId×Value→H) (F:Stop.Interp) :
  ReturnsInHanded {} Tryz.checked os 6 .any ((OpenSpec.ofChange Rows.stackNamesSpec).preRow enc Tryz.prog Tryz.f6 Rows.stackNamesRow.domain false Rows.stackNamesRow.laid) (((OpenSpec.ofChange Rows.stackNamesSpec).at F).post enc Tryz.prog Tryz.f6 false true false false):=by
 obtain⟨ds,places,hx⟩:=reads os enc
 refine returnsInHanded_of_row (C:=Tryz.checked) (s:=(OpenSpec.ofChange Rows.stackNamesSpec)) own started (by kernel_rfl) Tryz.func6
  (witness_row_at (enc:=enc) (C:=Tryz.checked) false (World.laidAll Tryz.prog os Rows.stackNamesRow.laid) wit (World.laidAll_os _ _ _) (by kernel_rfl) (by kernel_rfl) (by kernel_rfl)
   (OpenSpec.preRow_of_cond 8 hx (by kernel_rfl) (fun k hk=>by cases hk) (by kernel_rfl) (laidMet_laidAll _ (by kernel_rfl) (by kernel_rfl)))) ?_
 intro W base args ds gs before hval hW _ hcond hsz hL hS _
 exact contract H enc W base args ds gs before hval hW hsz (tabs (.tail _ (.tail _ (.head _))) hL hS)
theorem over:Rows.StackNamesSaid :=
 OpenClaim.holds_of_cond 6 Tryz.f6 rfl rfl rfl rfl rfl rfl rfl ⟨rfl,rfl,rfl,rfl,rfl⟩ rfl rfl rfl rfl rfl (by kernel_rfl) Tryz.func6 (by kernel_rfl)
  (of_decide_eq_true (by kernel_rfl)) (by unfold Func.isWrapper;first | (rw [if_pos (by decide +kernel)];kernel_rfl) | (rw [if_neg (by decide +kernel)];exact⟨rfl,rfl⟩))
  (fun os started H enc _ F=>by rw [OpenClaim.pre_eq_preRow];exact lifted os started H enc F)
theorem card:Rows.StackNamesCardSaid :=
 Claim7.holds_tied_plain_at .later [] [.data,.data,.data,.data,.pinned] true (true, "9dc944f17b9addf6bd9c0ba42540359c7232916effbf8d1ffb6abab67d9cba7b") false over (fun _ h=>by cases h) (by kernel_rfl) (fun _ h=>by cases h) stackNames_row_tie rfl ⟨rfl,rfl⟩ (by kernel_rfl) rfl
  (fun f fn hf hfn=>by
   obtain rfl:f=6:=Option.some.inj ((show Tryz.prog.funcNamed "rotulus/rotuluslaw22.StackNames" = some 6 by kernel_rfl).symm.trans hf) |>.symm
   obtain rfl:fn=Tryz.f6:=(Option.some.inj (Tryz.func6.symm.trans hfn)).symm
   exact⟨by kernel_rfl,fun j t ht=>by
    rw [Tryz.params6]at ht
    have hm:t∈(Tryz.f6.params.toList):=by
     have:=Array.mem_of_getElem? ht
     rw [Tryz.params6];simpa using this
    have hall:(Tryz.f6.params.toList.all fun u=>!Tryz.prog.wantsStandIn u)=true:=by kernel_rfl
    exact(show Tryz.prog.wantsStandIn t=false by simpa using List.all_eq_true.1 hall t hm)⟩)
  (by kernel_rfl)
end Go.Proofs.YtmmmjbipgngamaaGreatDoor.stackNames
namespace Go.Proofs.YtmmmjbipgngamaaGreatDoor
theorem stackNames_holds:Rows.StackNamesCardSaid:=stackNames.card
end Go.Proofs.YtmmmjbipgngamaaGreatDoor

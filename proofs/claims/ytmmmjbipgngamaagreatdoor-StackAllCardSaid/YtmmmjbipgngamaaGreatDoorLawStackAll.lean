/-
  What is proved here: rotuluslaw22.StackAll answers true for all numbers and rows of steps (its walk is StackAll_fn). No conditions.
-/
import Derived.Test.YtmmmjbipgngamaaGreatDoorSLg
import Derived.Test.YtmmmjbipgngamaaGreatDoorVY
import Derived.Test.YtmmmjbipgngamaaGreatDoorRD
import Derived.Test.YtmmmjbipgngamaaGreatDoorGWb
import Derived.Test.YtmmmjbipgngamaaGreatDoorTie
import Derived.Test.YtmmmjbipgngamaaGreatDoorCards
import Derived.WalkKit
import Derived.ProofKit
import Derived.OpenShut
import Derived.ShutString
import Derived.ChangeOld
import Derived.Below
import Derived.Carry
import Derived.Lay
import Derived.LaidOnce
import Derived.SevenTiedAt
import Derived.Deep.DeepHandedRow
import Derived.SizedLaws
set_option linter.unusedVariables false
set_option linter.unusedSimpArgs false
namespace Go.Proofs.YtmmmjbipgngamaaGreatDoor.stackAll
open Go.ChangeShapes Go.WideShapes Go.ChangeAt Go.RowKit
open Go.ChangeMaps (open_string shut_string)
set_option maxRecDepth 100000
theorem own:ownKnob Tryz.prog.godebug=none:=by kernel_rfl
theorem walk {W:World} (ht:Vai.TW W) (z0:Int) {oa:Vai.SlW} {os:List Vai.OpW} (ok:Vai.XAK W oa os) :
  Calls Tryz.prog 3 #[Value.int .i64 z0,Vai.slV oa os.length] W fun e w'=>e=.returned (.bool true)∧Below W.heap.size W w':=by
 have hmm:∀ k,Vai.MM (fun _=>False) [] k→False:=fun k m=>by
  rcases m with m | m
  · exact m
  · cases m
 have hrow:Vai.CR (Vai.MM (fun _=>False) []) (Vai.aOf (Vai.X7S oa os)) (.sl 3 os.length (os.flatMap Vai.X18)) (Vai.slB oa os.length 0) :=
  (Vai.XGU ok).mono (Vai.X1C.refl (fun _=>False) _) (fun _ f=>f.elim) fun k _ m=>(hmm k m).elim
 exact Vai.XAJ X41 XH0 ht (Vai.XEu ok) (ds:=[Vai.D.int .i64 z0,Vai.D.sl 3 os.length (os.flatMap Vai.X18)]) (vs:=[Value.int .i64 z0,Vai.slB oa os.length 0]) (ws:=[Value.int .i64 z0,Vai.slV oa os.length]) (.cons (show Vai.CR _ _ (.int .i64 z0) (.int .i64 z0)from .int) (.cons (hrow) .nil)) (.cons (.of_cellsPlain rfl) (.cons (.one (.one (Vai.XEt ok))) .nil)) (X93 z0 os)
theorem laid_ok:laidOutB Tryz.prog=true:=by kernel_rfl
theorem read22:Tryz.prog.readableRec 22=true:=by kernel_rfl
theorem row22:22<Tryz.prog.types.size:=of_decide_eq_true (by kernel_rfl)
theorem contract (H:Type) (enc:TypeId×Value→H) (W:World) (base:Nat) (args:Array Value) (ds gs:List (DataW H)) (before:List MemPlace)
  (hval:∀ (j:Nat) t v,Tryz.f3.params[j]?=some t→args[j]?=some v→Value.okWide Tryz.prog W .any base t v)
  (hW:DataW.Whole enc Tryz.prog Tryz.f3.params.toList Rows.stackAllSpec.vars false W args.toList ds gs before) (ht:Vai.TW W) (hS:W.ShapedOpen Tryz.prog) :
  Calls Tryz.prog 3 args W fun e W'=>∃ v,e=.returned v∧Rows.stackAllSpec.post enc Tryz.prog Tryz.f3 false true false false W args v W':=by
 have hW':=hW
 obtain⟨p,q,hA0,hV,rfl,hfz,hnd⟩:=hW
 have hA:DataW.TrodAll enc Tryz.prog W 0 (fun _=>true) true Tryz.f3.params.toList args.toList ds p:=hA0
 rw [Tryz.params3]at hA hval
 obtain⟨v0,vs0,d0,ds0,p0,q0,hargs,rfl,rfl,h0,r0⟩:=trodAll_cons hA
 obtain⟨v1,vs1,d1,ds1,p1,q1,rfl,rfl,rfl,h1,r1⟩:=trodAll_cons r0
 obtain⟨rfl,rfl,rfl⟩:=trodAll_nil r1
 obtain rfl:args=#[v0,v1]:=by cases args;simp_all
 obtain⟨rfl,rfl⟩:=trodVars_none hV
 obtain⟨z0,rfl,rfl,rfl,y0⟩:=open_int Tryz.underlying3 (hval 0 3 v0 rfl rfl) h0
 obtain⟨sa,sl,sc,rfl⟩:=okWide_slice u22 (hval 1 22 v1 rfl rfl)
 have hr1:=h1
 obtain⟨fu1,hf1⟩:=h1
 have hz1:W.noneFrozen p1:=X9M hfz fun x hx=>by simp [hx]
 obtain⟨oa,os,e1,ok⟩:=XCt (XCu ht hS) hf1 hz1
 have e1:=(List.cons.inj (show[Value.slice sa sl sc]=[Vai.slV oa os.length]from e1)).1
 rw [e1]at hr1 hW' hA0 ⊢
 refine(walk ht z0 ok).mono fun e W' ⟨he,bel⟩=>?_
 subst he
 exact⟨_,rfl,_,_,_,[],_,[],hW',trodAll_mk1 (shut_bool Tryz.underlying4 _),(trodAll_cons_mk (shut_int Tryz.underlying3 y0) (trodAll_cons_mk (Below.trod laid_ok read22 row22 hr1 bel (fun x hx=>DataW.TrodAll.lt hA0 x (by simp [hx]))) trodAll_mk0)),rfl,bel.frame _,fun h=>by cases h⟩
noncomputable def wit:Array Value:=#[.int .i64 0,.slice none 0 0]
theorem reads (os:Os) {H:Type} (enc:TypeId×Value→H):∃ ds places,DataW.whole enc Tryz.prog ((World.laidAll Tryz.prog os Rows.stackAllRow.laid).forCall (fun _ _=>0) ⟨#[],wit,[]⟩).memory Tryz.f3.params.toList Rows.stackAllSpec.vars false wit.toList 8=some (ds,[],places) :=
 ⟨[.lit (.int .i64 0),.nil],[],by kernel_rfl⟩
theorem lifted (os:Os) (started:os.Started) (H:Type) (enc:TypeId×Value→H) (F:Stop.Interp) :
  ReturnsInHanded {} Tryz.checked os 3 .any ((OpenSpec.ofChange Rows.stackAllSpec).preRow enc Tryz.prog Tryz.f3 Rows.stackAllRow.domain false Rows.stackAllRow.laid) (((OpenSpec.ofChange Rows.stackAllSpec).at F).post enc Tryz.prog Tryz.f3 false true false false):=by
 obtain⟨ds,places,hx⟩:=reads os enc
 refine returnsInHanded_of_row (C:=Tryz.checked) (s:=(OpenSpec.ofChange Rows.stackAllSpec)) own started (by kernel_rfl) Tryz.func3
  (witness_row_at (enc:=enc) (C:=Tryz.checked) false (World.laidAll Tryz.prog os Rows.stackAllRow.laid) wit (World.laidAll_os _ _ _) (by kernel_rfl) (by kernel_rfl) (by kernel_rfl)
   (OpenSpec.preRow_of_cond 8 hx (by kernel_rfl) (fun k hk=>by cases hk) (by kernel_rfl) (laidMet_laidAll _ (by kernel_rfl) (by kernel_rfl)))) ?_
 intro W base args ds gs before hval hW _ hcond hsz hL hS _
 exact contract H enc W base args ds gs before hval hW (tabs (.tail _ (.tail _ (.head _))) hL hS) hS
theorem over:Rows.StackAllSaid :=
 OpenClaim.holds_of_cond 3 Tryz.f3 rfl rfl rfl rfl rfl rfl rfl ⟨rfl,rfl,rfl,rfl,rfl⟩ rfl rfl rfl rfl rfl (by kernel_rfl) Tryz.func3 (by kernel_rfl)
  (of_decide_eq_true (by kernel_rfl)) (by unfold Func.isWrapper;first | (rw [if_pos (by decide +kernel)];kernel_rfl) | (rw [if_neg (by decide +kernel)];exact⟨rfl,rfl⟩))
  (fun os started H enc _ F=>by rw [OpenClaim.pre_eq_preRow];exact lifted os started H enc F)
theorem card:Rows.StackAllCardSaid :=
 Claim7.holds_tied_plain_at .later [] [.data,.data,.data,.data,.pinned] true (true, "9dc944f17b9addf6bd9c0ba42540359c7232916effbf8d1ffb6abab67d9cba7b") false over (fun _ h=>by cases h) (by kernel_rfl) (fun _ h=>by cases h) stackAll_row_tie rfl ⟨rfl,rfl⟩ (by kernel_rfl) rfl
  (fun f fn hf hfn=>by
   obtain rfl:f=3:=Option.some.inj ((show Tryz.prog.funcNamed "rotulus/rotuluslaw22.StackAll" = some 3 by kernel_rfl).symm.trans hf) |>.symm
   obtain rfl:fn=Tryz.f3:=(Option.some.inj (Tryz.func3.symm.trans hfn)).symm
   exact⟨by kernel_rfl,fun j t ht=>by
    rw [Tryz.params3]at ht
    have hm:t∈(Tryz.f3.params.toList):=by
     have:=Array.mem_of_getElem? ht
     rw [Tryz.params3];simpa using this
    have hall:(Tryz.f3.params.toList.all fun u=>!Tryz.prog.wantsStandIn u)=true:=by kernel_rfl
    exact(show Tryz.prog.wantsStandIn t=false by simpa using List.all_eq_true.1 hall t hm)⟩)
  (by kernel_rfl)
end Go.Proofs.YtmmmjbipgngamaaGreatDoor.stackAll
namespace Go.Proofs.YtmmmjbipgngamaaGreatDoor
theorem stackAll_holds:Rows.StackAllCardSaid:=stackAll.card
end Go.Proofs.YtmmmjbipgngamaaGreatDoor

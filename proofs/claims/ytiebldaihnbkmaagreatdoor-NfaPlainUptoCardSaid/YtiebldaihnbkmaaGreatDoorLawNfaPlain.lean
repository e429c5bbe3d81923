/-
  What is proved here: rotuluslaw14.NfaPlain answers true for all texts and numbers of bulk at most 1048576 (its walk is NfaPlain_fn). No conditions.
-/
import Derived.Test.YtiebldaihnbkmaaGreatDoorUQ
import Derived.Test.YtiebldaihnbkmaaGreatDoorVSV
import Derived.Test.YtiebldaihnbkmaaGreatDoorRD
import Derived.Lib.LaidU8T
import Derived.Test.YtiebldaihnbkmaaGreatDoorTie
import Derived.Test.YtiebldaihnbkmaaGreatDoorCards
import Derived.WalkKit
import Derived.ProofKit
import Derived.OpenShut
import Derived.ShutString
import Derived.ChangeOld
import Derived.Below
import Derived.Carry
import Derived.Lay
import Derived.LaidOnce
import Derived.SevenTiedAt
import Derived.Deep.DeepHandedRow
import Derived.SizedLaws
set_option linter.unusedVariables false
set_option linter.unusedSimpArgs false
namespace Go.Proofs.YtiebldaihnbkmaaGreatDoor.nfaPlain
open Go.ChangeShapes Go.WideShapes Go.ChangeAt Go.RowKit
open Go.ChangeMaps (open_string shut_string)
set_option maxRecDepth 100000
theorem own:ownKnob Tryz.prog.godebug=none:=by kernel_rfl
theorem walk {W:World} (ht:Vai.TW W) (a0:ByteArray) (ha0:a0.size≤1048576) (a1:ByteArray) (ha1:a1.size≤1048576) :
  Calls Tryz.prog 8 #[Value.string a0,Value.string a1] W fun e w'=>e=.returned (.bool true)∧Below W.heap.size W w' :=
 Vai.XBL XBl ov_ok (ds:=[Vai.D.str a0,Vai.D.str a1]) (vs:=[Value.string a0,Value.string a1]) (.cons (show Vai.CR _ Vai.a0 (.str a0) (.string a0)from .str) (.cons (show Vai.CR _ Vai.a0 (.str a1) (.string a1)from .str) .nil)) rfl (X9g a0 a1 ha0 ha1) W ht
theorem first_eq:Rows.laid_unicode_utf8_first=Lib.firstData:=by kernel_rfl
theorem accept_eq:Rows.laid_unicode_utf8_acceptRanges=Lib.acceptData:=by kernel_rfl
theorem first_in:(("unicode/utf8.first", Lib.firstData):String×DataW Unit)∈Rows.nfaPlainUptoRow.laid:=by
 rw [← first_eq];exact .tail _ (.tail _ (.tail _ (.tail _ (.head _))))
theorem accept_in:(("unicode/utf8.acceptRanges", Lib.acceptData):String×DataW Unit)∈Rows.nfaPlainUptoRow.laid:=by
 rw [← accept_eq];exact .tail _ (.tail _ (.tail _ (.head _)))
theorem tabs {W:World} (hL:laidMet Tryz.prog Rows.nfaPlainUptoRow.laid W):Vai.TW W :=
 utf8Tabs_of_readsT (P:=Tryz.prog) (ρ:=renV) (U8Types.of196 XJH) ⟨by kernel_rfl,by kernel_rfl,by kernel_rfl,by kernel_rfl,by kernel_rfl,by kernel_rfl,by kernel_rfl⟩
  (Lib.laidMet.reads hL (d:=Lib.firstData) (show("unicode/utf8.first", Lib.firstData)∈Rows.nfaPlainUptoRow.laid from first_in)) (Lib.laidMet.reads hL (d:=Lib.acceptData) (show("unicode/utf8.acceptRanges", Lib.acceptData)∈Rows.nfaPlainUptoRow.laid from accept_in))
theorem contract (H:Type) (enc:TypeId×Value→H) (W:World) (base:Nat) (args:Array Value) (ds gs:List (DataW H)) (before:List MemPlace)
  (hval:∀ (j:Nat) t v,Tryz.f8.params[j]?=some t→args[j]?=some v→Value.okWide Tryz.prog W .any base t v)
  (hW:DataW.Whole enc Tryz.prog Tryz.f8.params.toList Rows.nfaPlainSpec.vars false W args.toList ds gs before) (ht:Vai.TW W) (hb:Rows.uptoBulkAll (ds++gs)≤1048576) :
  Calls Tryz.prog 8 args W fun e W'=>∃ v,e=.returned v∧Rows.nfaPlainSpec.post enc Tryz.prog Tryz.f8 false true false false W args v W':=by
 have hW':=hW
 obtain⟨p,q,hA0,hV,rfl,hfz,hnd⟩:=hW
 have hA:DataW.TrodAll enc Tryz.prog W 0 (fun _=>true) true Tryz.f8.params.toList args.toList ds p:=hA0
 rw [Tryz.params8]at hA hval
 obtain⟨v0,vs0,d0,ds0,p0,q0,hargs,rfl,rfl,h0,r0⟩:=trodAll_cons hA
 obtain⟨v1,vs1,d1,ds1,p1,q1,rfl,rfl,rfl,h1,r1⟩:=trodAll_cons r0
 obtain⟨rfl,rfl,rfl⟩:=trodAll_nil r1
 obtain rfl:args=#[v0,v1]:=by cases args;simp_all
 obtain⟨rfl,rfl⟩:=trodVars_none hV
 simp only [Rows.uptoBulkAll,List.append_nil]at hb
 obtain⟨a0,rfl,rfl,rfl,y0⟩:=open_string Tryz.underlying9 (hval 0 9 v0 rfl rfl) h0
 obtain⟨a1,rfl,rfl,rfl,y1⟩:=open_string Tryz.underlying9 (hval 1 9 v1 rfl rfl) h1
 have e0:Rows.uptoBulk (DataW.lit (H:=H) (.string a0.data.toList))=a0.size+1:=by
  simp only [Rows.uptoBulk,Array.length_toList];rfl
 have e1:Rows.uptoBulk (DataW.lit (H:=H) (.string a1.data.toList))=a1.size+1:=by
  simp only [Rows.uptoBulk,Array.length_toList];rfl
 rw [e0,e1]at hb
 refine(walk ht a0 (by omega) a1 (by omega)).mono fun e W' ⟨he,bel⟩=>?_
 subst he
 exact⟨_,rfl,_,_,_,[],_,[],hW',trodAll_mk1 (shut_bool Tryz.underlying4 _),(trodAll_cons_mk (shut_string Tryz.underlying9 y0) (trodAll_cons_mk (shut_string Tryz.underlying9 y1) trodAll_mk0)),rfl,bel.frame _,fun h=>by cases h⟩
noncomputable def wit:Array Value:=#[.string ByteArray.empty,.string ByteArray.empty]
theorem reads (os:Os) {H:Type} (enc:TypeId×Value→H):∃ ds places,DataW.whole enc Tryz.prog ((World.laidAll Tryz.prog os Rows.nfaPlainUptoRow.laid).forCall (fun _ _=>0) ⟨#[],wit,[]⟩).memory Tryz.f8.params.toList Rows.nfaPlainSpec.vars false wit.toList 8=some (ds,[],places)∧Rows.uptoSmall H (ds++[])=true :=
 ⟨[.lit (.string []),.lit (.string [])],[],by kernel_rfl,by kernel_rfl⟩
theorem lifted (os:Os) (started:os.Started) (H:Type) (enc:TypeId×Value→H) (F:Stop.Interp) :
  ReturnsInHanded {} Tryz.checked os 8 .any ((Rows.OpenSpec.upto Rows.nfaPlainSpec).preRow enc Tryz.prog Tryz.f8 Rows.nfaPlainUptoRow.domain false Rows.nfaPlainUptoRow.laid) (((Rows.OpenSpec.upto Rows.nfaPlainSpec).at F).post enc Tryz.prog Tryz.f8 false true false false):=by
 obtain⟨ds,places,hx,hs⟩:=reads os enc
 refine returnsInHanded_of_row (C:=Tryz.checked) (s:=(Rows.OpenSpec.upto Rows.nfaPlainSpec)) own started (by kernel_rfl) Tryz.func8
  (witness_row_at (enc:=enc) (C:=Tryz.checked) false (World.laidAll Tryz.prog os Rows.nfaPlainUptoRow.laid) wit (World.laidAll_os _ _ _) (by kernel_rfl) (by kernel_rfl) (by kernel_rfl)
   (OpenSpec.preRow_of_cond 8 hx (by kernel_rfl) (fun k hk=>by cases hk;exact hs) (by kernel_rfl) (laidMet_laidAll _ (by kernel_rfl) (by kernel_rfl)))) ?_
 intro W base args ds gs before hval hW _ hcond _ hL _ _
 have hb:=of_decide_eq_true (hcond _ rfl)
 exact contract H enc W base args ds gs before hval hW (tabs hL) hb
theorem over:Rows.NfaPlainUptoSaid :=
 OpenClaim.holds_of_cond 8 Tryz.f8 rfl rfl rfl rfl rfl rfl rfl ⟨rfl,rfl,rfl,rfl,rfl⟩ rfl rfl rfl rfl rfl (by kernel_rfl) Tryz.func8 (by kernel_rfl)
  (of_decide_eq_true (by kernel_rfl)) (by unfold Func.isWrapper;first | (rw [if_pos (by decide +kernel)];kernel_rfl) | (rw [if_neg (by decide +kernel)];exact⟨rfl,rfl⟩))
  (fun os started H enc _ F=>by rw [OpenClaim.pre_eq_preRow];exact lifted os started H enc F)
theorem card:Rows.NfaPlainUptoCardSaid :=
 Claim7.holds_tied_plain_at .later [] [.data,.data,.data,.data,.pinned] true (true, "d117c101de34bf04ca5e6daf347c683be796a753d16d7b155956bbd42096410a") false over (fun _ h=>by cases h) (by kernel_rfl) (fun _ h=>by cases h) nfaPlainUpto_row_tie rfl ⟨rfl,rfl⟩ (by kernel_rfl) rfl
  (fun f fn hf hfn=>by
   obtain rfl:f=8:=Option.some.inj ((show Tryz.prog.funcNamed "rotulus/rotuluslaw14.NfaPlain" = some 8 by kernel_rfl).symm.trans hf) |>.symm
   obtain rfl:fn=Tryz.f8:=(Option.some.inj (Tryz.func8.symm.trans hfn)).symm
   exact⟨by kernel_rfl,fun j t ht=>by
    rw [Tryz.params8]at ht
    have hm:t∈(Tryz.f8.params.toList):=by
     have:=Array.mem_of_getElem? ht
     rw [Tryz.params8];simpa using this
    have hall:(Tryz.f8.params.toList.all fun u=>!Tryz.prog.wantsStandIn u)=true:=by kernel_rfl
    exact(show Tryz.prog.wantsStandIn t=false by simpa using List.all_eq_true.1 hall t hm)⟩)
  (by kernel_rfl)
end Go.Proofs.YtiebldaihnbkmaaGreatDoor.nfaPlain
namespace Go.Proofs.YtiebldaihnbkmaaGreatDoor
theorem nfaPlain_holds:Rows.NfaPlainUptoCardSaid:=nfaPlain.card
end Go.Proofs.YtiebldaihnbkmaaGreatDoor

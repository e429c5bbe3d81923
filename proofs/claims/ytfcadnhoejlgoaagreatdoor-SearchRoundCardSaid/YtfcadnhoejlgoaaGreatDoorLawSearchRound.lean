/-
  What is proved here: rotuluslaw16.SearchRound answers true for all texts, lines and places (its walk is SearchRound_fn). No conditions.
-/
import Derived.Test.YtfcadnhoejlgoaaGreatDoorGG
import Derived.Test.YtfcadnhoejlgoaaGreatDoorGW1
import Derived.Test.YtfcadnhoejlgoaaGreatDoorVSV
import Derived.Test.YtfcadnhoejlgoaaGreatDoorB16
import Derived.Test.YtfcadnhoejlgoaaGreatDoorRD
import Derived.Lib.LaidU8T
import Derived.Test.YtfcadnhoejlgoaaGreatDoorTie
import Derived.Test.YtfcadnhoejlgoaaGreatDoorCards
import Derived.WalkKit
import Derived.ProofKit
import Derived.OpenShut
import Derived.ShutString
import Derived.ChangeOld
import Derived.Below
import Derived.Carry
import Derived.Lay
import Derived.LaidOnce
import Derived.SevenTiedAt
import Derived.Deep.DeepHandedRow
import Derived.SizedLaws
set_option linter.unusedVariables false
set_option linter.unusedSimpArgs false
namespace Go.Proofs.YtfcadnhoejlgoaaGreatDoor.searchRound
open Go.ChangeShapes Go.WideShapes Go.ChangeAt Go.RowKit
open Go.ChangeMaps (open_string shut_string)
set_option maxRecDepth 100000
theorem own:ownKnob Tryz.prog.godebug=none:=by kernel_rfl
theorem walk {W:World} (ht:Vai.TW W) (a0:ByteArray) {oa:Vai.SlW} {rs:List Vai.RW} (ok:Vai.X9B W oa rs) :
  Calls Tryz.prog 7 #[Value.string a0,Vai.slV oa rs.length] W fun e w'=>e=.returned (.bool true)∧Below W.heap.size W w':=by
 have hmm:∀ k,Vai.MM (fun _=>False) [] k→False:=fun k m=>by
  rcases m with m | m
  · exact m
  · cases m
 have hrow:Vai.CR (Vai.MM (fun _=>False) []) (Vai.aOf (Vai.X51 oa rs)) (.sl 1 (rs.map Prod.snd).length ((rs.map Prod.snd).map Vai.X46)) (Vai.slB oa rs.length rs.length):=by
  have:=(Vai.XJK ok).mono (Vai.X1d.refl (fun _=>False) _) (fun _ f=>f.elim) fun k _ m=>(hmm k m).elim
  rw [List.length_map,List.map_map]
  exact this
 exact Vai.XCU XIb ov_ok ht (Vai.XGc ok) (ds:=[Vai.D.str a0,Vai.D.sl 1 (rs.map Prod.snd).length ((rs.map Prod.snd).map Vai.X46)]) (vs:=[Value.string a0,Vai.slB oa rs.length rs.length]) (ws:=[Value.string a0,Vai.slV oa rs.length]) (.cons (show Vai.CR _ _ (.str a0) (.string a0)from .str) (.cons (hrow) .nil)) (.cons (.of_cellsPlain rfl) (.cons (.one (.one (Vai.XGb ok))) .nil)) (X7B a0 (rs.map Prod.snd))
theorem first_eq:Rows.laid_unicode_utf8_first=Lib.firstData:=by kernel_rfl
theorem accept_eq:Rows.laid_unicode_utf8_acceptRanges=Lib.acceptData:=by kernel_rfl
theorem first_in:(("unicode/utf8.first", Lib.firstData):String×DataW Unit)∈Rows.searchRoundRow.laid:=by
 rw [← first_eq];exact .tail _ (.tail _ (.tail _ (.tail _ (.head _))))
theorem accept_in:(("unicode/utf8.acceptRanges", Lib.acceptData):String×DataW Unit)∈Rows.searchRoundRow.laid:=by
 rw [← accept_eq];exact .tail _ (.tail _ (.tail _ (.head _)))
theorem tabs {W:World} (hL:laidMet Tryz.prog Rows.searchRoundRow.laid W):Vai.TW W :=
 utf8Tabs_of_readsT (P:=Tryz.prog) (ρ:=renV) (U8Types.of196 XME) ⟨by kernel_rfl,by kernel_rfl,by kernel_rfl,by kernel_rfl,by kernel_rfl,by kernel_rfl,by kernel_rfl⟩
  (Lib.laidMet.reads hL (d:=Lib.firstData) (show("unicode/utf8.first", Lib.firstData)∈Rows.searchRoundRow.laid from first_in)) (Lib.laidMet.reads hL (d:=Lib.acceptData) (show("unicode/utf8.acceptRanges", Lib.acceptData)∈Rows.searchRoundRow.laid from accept_in))
theorem laid_ok:laidOutB Tryz.prog=true:=by kernel_rfl
theorem read41:Tryz.prog.readableRec 41=true:=by kernel_rfl
theorem row41:41<Tryz.prog.types.size:=of_decide_eq_true (by kernel_rfl)
theorem contract (H:Type) (enc:TypeId×Value→H) (W:World) (base:Nat) (args:Array Value) (ds gs:List (DataW H)) (before:List MemPlace)
  (hval:∀ (j:Nat) t v,Tryz.f7.params[j]?=some t→args[j]?=some v→Value.okWide Tryz.prog W .any base t v)
  (hW:DataW.Whole enc Tryz.prog Tryz.f7.params.toList Rows.searchRoundSpec.vars false W args.toList ds gs before) (ht:Vai.TW W) (hS:W.ShapedOpen Tryz.prog) :
  Calls Tryz.prog 7 args W fun e W'=>∃ v,e=.returned v∧Rows.searchRoundSpec.post enc Tryz.prog Tryz.f7 false true false false W args v W':=by
 have hW':=hW
 obtain⟨p,q,hA0,hV,rfl,hfz,hnd⟩:=hW
 have hA:DataW.TrodAll enc Tryz.prog W 0 (fun _=>true) true Tryz.f7.params.toList args.toList ds p:=hA0
 rw [Tryz.params7]at hA hval
 obtain⟨v0,vs0,d0,ds0,p0,q0,hargs,rfl,rfl,h0,r0⟩:=trodAll_cons hA
 obtain⟨v1,vs1,d1,ds1,p1,q1,rfl,rfl,rfl,h1,r1⟩:=trodAll_cons r0
 obtain⟨rfl,rfl,rfl⟩:=trodAll_nil r1
 obtain rfl:args=#[v0,v1]:=by cases args;simp_all
 obtain⟨rfl,rfl⟩:=trodVars_none hV
 obtain⟨a0,rfl,rfl,rfl,y0⟩:=open_string Tryz.underlying9 (hval 0 9 v0 rfl rfl) h0
 obtain⟨sa,sl,sc,rfl⟩:=okWide_slice u41 (hval 1 41 v1 rfl rfl)
 have hr1:=h1
 obtain⟨fu1,hf1⟩:=h1
 have hz1:W.noneFrozen p1:=XBH hfz fun x hx=>by simp [hx]
 obtain⟨oa,rs,e1,ok⟩:=XDL (XIx ht hS) hf1 hz1
 have e1:=(List.cons.inj (show[Value.slice sa sl sc]=[Vai.slV oa rs.length]from e1)).1
 rw [e1]at hr1 hW' hA0 ⊢
 refine(walk ht a0 ok).mono fun e W' ⟨he,bel⟩=>?_
 subst he
 exact⟨_,rfl,_,_,_,[],_,[],hW',trodAll_mk1 (shut_bool Tryz.underlying4 _),(trodAll_cons_mk (shut_string Tryz.underlying9 y0) (trodAll_cons_mk (Below.trod laid_ok read41 row41 hr1 bel (fun x hx=>DataW.TrodAll.lt hA0 x (by simp [hx]))) trodAll_mk0)),rfl,bel.frame _,fun h=>by cases h⟩
noncomputable def wit:Array Value:=#[.string ByteArray.empty,.slice none 0 0]
theorem reads (os:Os) {H:Type} (enc:TypeId×Value→H):∃ ds places,DataW.whole enc Tryz.prog ((World.laidAll Tryz.prog os Rows.searchRoundRow.laid).forCall (fun _ _=>0) ⟨#[],wit,[]⟩).memory Tryz.f7.params.toList Rows.searchRoundSpec.vars false wit.toList 8=some (ds,[],places) :=
 ⟨[.lit (.string []),.nil],[],by kernel_rfl⟩
theorem lifted (os:Os) (started:os.Started) (H:Type) (enc:TypeId×Value→H) (F:Stop.Interp) :
  ReturnsInHanded {} Tryz.checked os 7 .any ((OpenSpec.ofChange Rows.searchRoundSpec).preRow enc Tryz.prog Tryz.f7 Rows.searchRoundRow.domain false Rows.searchRoundRow.laid) (((OpenSpec.ofChange Rows.searchRoundSpec).at F).post enc Tryz.prog Tryz.f7 false true false false):=by
 obtain⟨ds,places,hx⟩:=reads os enc
 refine returnsInHanded_of_row (C:=Tryz.checked) (s:=(OpenSpec.ofChange Rows.searchRoundSpec)) own started (by kernel_rfl) Tryz.func7
  (witness_row_at (enc:=enc) (C:=Tryz.checked) false (World.laidAll Tryz.prog os Rows.searchRoundRow.laid) wit (World.laidAll_os _ _ _) (by kernel_rfl) (by kernel_rfl) (by kernel_rfl)
   (OpenSpec.preRow_of_cond 8 hx (by kernel_rfl) (fun k hk=>by cases hk) (by kernel_rfl) (laidMet_laidAll _ (by kernel_rfl) (by kernel_rfl)))) ?_
 intro W base args ds gs before hval hW _ hcond _ hL hS _
 exact contract H enc W base args ds gs before hval hW (tabs hL) hS
theorem over:Rows.SearchRoundSaid :=
 OpenClaim.holds_of_cond 7 Tryz.f7 rfl rfl rfl rfl rfl rfl rfl ⟨rfl,rfl,rfl,rfl,rfl⟩ rfl rfl rfl rfl rfl (by kernel_rfl) Tryz.func7 (by kernel_rfl)
  (of_decide_eq_true (by kernel_rfl)) (by unfold Func.isWrapper;first | (rw [if_pos (by decide +kernel)];kernel_rfl) | (rw [if_neg (by decide +kernel)];exact⟨rfl,rfl⟩))
  (fun os started H enc _ F=>by rw [OpenClaim.pre_eq_preRow];exact lifted os started H enc F)
theorem card:Rows.SearchRoundCardSaid :=
 Claim7.holds_tied_plain_at .later [] [.data,.data,.data,.data,.pinned] true (true, "ddaa8fedf02bc2ca61cba70b561254bc983eb286ee2bd9c802e66353d79497f6") false over (fun _ h=>by cases h) (by kernel_rfl) (fun _ h=>by cases h) searchRound_row_tie rfl ⟨rfl,rfl⟩ (by kernel_rfl) rfl
  (fun f fn hf hfn=>by
   obtain rfl:f=7:=Option.some.inj ((show Tryz.prog.funcNamed "rotulus/rotuluslaw16.SearchRound" = some 7 by kernel_rfl).symm.trans hf) |>.symm
   obtain rfl:fn=Tryz.f7:=(Option.some.inj (Tryz.func7.symm.trans hfn)).symm
   exact⟨by kernel_rfl,fun j t ht=>by
    rw [Tryz.params7]at ht
    have hm:t∈(Tryz.f7.params.toList):=by
     have:=Array.mem_of_getElem? ht
     rw [Tryz.params7];simpa using this
    have hall:(Tryz.f7.params.toList.all fun u=>!Tryz.prog.wantsStandIn u)=true:=by kernel_rfl
    exact(show Tryz.prog.wantsStandIn t=false by simpa using List.all_eq_true.1 hall t hm)⟩)
  (by kernel_rfl)
end Go.Proofs.YtfcadnhoejlgoaaGreatDoor.searchRound
namespace Go.Proofs.YtfcadnhoejlgoaaGreatDoor
theorem searchRound_holds:Rows.SearchRoundCardSaid:=searchRound.card
end Go.Proofs.YtfcadnhoejlgoaaGreatDoor

/-
  What is proved here: what functions of the pattern's package come to (walks that a program of mine has printed). what functions of the pattern's package come to (walks that a program of mine has printed). No conditions but those that the theorems state.
-/
import Derived.Test.YtiebldaihnbkmaaGreatDoorNE
import Derived.Test.YtiebldaihnbkmaaGreatDoorNI
import Derived.Test.YtiebldaihnbkmaaGreatDoorRI
set_option linter.unusedVariables false
set_option linter.unusedSimpArgs false
set_option maxRecDepth 100000
set_option maxHeartbeats 4000000
namespace Go.Proofs.YtiebldaihnbkmaaGreatDoor
open Go.Vai Go.Nfa
noncomputable section
theorem XBz (set:List (Int×Int)) (no:Bool) (x:Nat) (L:List Sta) (n:Nat) (first sz:Int) (hn:L.length=n) (hb:n≤1000000):FnD P ov 47 [.loc 0 0,.agg [.i64 1,.i64 2,.sl 2 set.length (set.flatMap X0s),.bool no,.sl 6 0 ([]),.i64 0,.i64 0,.i64 x,.i64 0]] [.box [.row 1 0 n n,.i64 first,.i64 sz],.row 9 n (L.flatMap X03)] (fun r L1=>∃ n1,(L++[Sta.takes set no x]).length=n1∧r=.i64 n∧L1=[.box [.row 1 0 n1 n1,.i64 first,.i64 sz],.row 9 n1 ((L++[Sta.takes set no x]).flatMap X03)]):=by
 refine FnD.intro (by kernel_rfl) (fn:=Tryz.f47) (by kernel_rfl) rfl (by kernel_rfl) fun M a0 g0 hg0=>?_
 refine CD.seq (CD.region ?_)
 refine OD.rL 2 [(0,.loc 0 0),(3,.loc 2 0)] [.box [.row 1 0 n n,.i64 first,.i64 sz],.row 9 n (L.flatMap X03),.box [.i64 1,.i64 2,.sl 2 set.length (set.flatMap X0s),.bool no,.sl 6 0 ([]),.i64 0,.i64 0,.i64 x,.i64 0]] ?_
 refine OD.nil (CD.seq ?_)
 refine CD.drawn (by kernel_rfl) ?_
 refine OD.rE 6 [(0,.loc 0 0),(5,.loc 0 0),(6,.loc 0 0),(7,.loc 0 0),(8,.loc 0 0),(9,.row 1 0 n n),(10,.agg [.i64 1,.i64 2,.sl 2 set.length (set.flatMap X0s),.bool no,.sl 6 0 ([]),.i64 0,.i64 0,.i64 x,.i64 0])] ?_
 refine OD.bsl (e:=9) (cs:=[.i64 1,.i64 2,.sl 2 set.length (set.flatMap X0s),.bool no,.sl 6 0 ([]),.i64 0,.i64 0,.i64 x,.i64 0]) rfl (by kernel_rfl) ?_
 refine OD.rE 0 [(0,.loc 0 0),(5,.loc 0 0),(6,.loc 0 0),(7,.loc 0 0),(8,.loc 0 0),(9,.row 1 0 n n),(11,.sl 9 1 [.i64 1,.i64 2,.sl 2 set.length (set.flatMap X0s),.bool no,.sl 6 0 ([]),.i64 0,.i64 0,.i64 x,.i64 0])] ?_
 refine OD.appE (enc:=X03) (xs:=L) (vs:=[Sta.takes set no x]) rfl (by kernel_rfl) rfl rfl rfl (by rfl) X0Q (by first | omega | (simp<;>omega)) (by decide) (by omega) (by omega) ?_
 refine OD.rL 3 [(0,.loc 0 0),(5,.loc 0 0),(6,.loc 0 0),(7,.loc 0 0),(8,.loc 0 0),(9,.cmp)] [.box [.row 1 0 (n+1) (n+1),.i64 first,.i64 sz],.row 9 (n+1) ((L++[Sta.takes set no x]).flatMap X03),.box [.i64 1,.i64 2,.sl 2 set.length (set.flatMap X0s),.bool no,.sl 6 0 ([]),.i64 0,.i64 0,.i64 x,.i64 0]] ?_
 refine OD.nil ⟨by kernel_rfl,?_⟩
 refine CD.seq (CD.region ?_)
 refine OD.rE 6 [(20,.i64 (X05 .i64 (((n+1:Nat):Int) - 1)))] ?_
 refine OD.is 20 rfl (wrn (m:=n) (by omega) (by omega)) ?_
 refine OD.rE 1 [(4,.i64 n)] ?_
 refine OD.nil (CD.ret ?_)
 (try dsimp only);first | refine X01 ?_ | refine X02 ?_
 exact rO 2 (.i64 n) [.box [.row 1 0 (n+1) (n+1),.i64 first,.i64 sz],.row 9 (n+1) ((L++[Sta.takes set no x]).flatMap X03)] (⟨_,by rw [List.length_append,hn];rfl,rfl,rfl⟩)
theorem X4Q (x y:Nat) (L:List Sta) (n:Nat) (first sz:Int) (hn:L.length=n) (hb:n≤1000000):FnD P ov 47 [.loc 0 0,.agg [.i64 2,.i64 0,.lit (.slice none 0 0),.bool false,.lit (.slice none 0 0),.i64 0,.i64 0,.i64 x,.i64 y]] [.box [.row 1 0 n n,.i64 first,.i64 sz],.row 9 n (L.flatMap X03)] (fun r L1=>∃ n1,(L++[Sta.splits x y]).length=n1∧r=.i64 n∧L1=[.box [.row 1 0 n1 n1,.i64 first,.i64 sz],.row 9 n1 ((L++[Sta.splits x y]).flatMap X03)]):=by
 refine FnD.intro (by kernel_rfl) (fn:=Tryz.f47) (by kernel_rfl) rfl (by kernel_rfl) fun M a0 g0 hg0=>?_
 refine CD.seq (CD.region ?_)
 refine OD.rL 2 [(0,.loc 0 0),(3,.loc 2 0)] [.box [.row 1 0 n n,.i64 first,.i64 sz],.row 9 n (L.flatMap X03),.box [.i64 2,.i64 0,.lit (.slice none 0 0),.bool false,.lit (.slice none 0 0),.i64 0,.i64 0,.i64 x,.i64 y]] ?_
 refine OD.nil (CD.seq ?_)
 refine CD.drawn (by kernel_rfl) ?_
 refine OD.rE 6 [(0,.loc 0 0),(5,.loc 0 0),(6,.loc 0 0),(7,.loc 0 0),(8,.loc 0 0),(9,.row 1 0 n n),(10,.agg [.i64 2,.i64 0,.lit (.slice none 0 0),.bool false,.lit (.slice none 0 0),.i64 0,.i64 0,.i64 x,.i64 y])] ?_
 refine OD.bsl (e:=9) (cs:=[.i64 2,.i64 0,.lit (.slice none 0 0),.bool false,.lit (.slice none 0 0),.i64 0,.i64 0,.i64 x,.i64 y]) rfl (by kernel_rfl) ?_
 refine OD.rE 0 [(0,.loc 0 0),(5,.loc 0 0),(6,.loc 0 0),(7,.loc 0 0),(8,.loc 0 0),(9,.row 1 0 n n),(11,.sl 9 1 [.i64 2,.i64 0,.lit (.slice none 0 0),.bool false,.lit (.slice none 0 0),.i64 0,.i64 0,.i64 x,.i64 y])] ?_
 refine OD.appE (enc:=X03) (xs:=L) (vs:=[Sta.splits x y]) rfl (by kernel_rfl) rfl rfl rfl (by rfl) X0Q (by first | omega | (simp<;>omega)) (by decide) (by omega) (by omega) ?_
 refine OD.rL 3 [(0,.loc 0 0),(5,.loc 0 0),(6,.loc 0 0),(7,.loc 0 0),(8,.loc 0 0),(9,.cmp)] [.box [.row 1 0 (n+1) (n+1),.i64 first,.i64 sz],.row 9 (n+1) ((L++[Sta.splits x y]).flatMap X03),.box [.i64 2,.i64 0,.lit (.slice none 0 0),.bool false,.lit (.slice none 0 0),.i64 0,.i64 0,.i64 x,.i64 y]] ?_
 refine OD.nil ⟨by kernel_rfl,?_⟩
 refine CD.seq (CD.region ?_)
 refine OD.rE 6 [(20,.i64 (X05 .i64 (((n+1:Nat):Int) - 1)))] ?_
 refine OD.is 20 rfl (wrn (m:=n) (by omega) (by omega)) ?_
 refine OD.rE 1 [(4,.i64 n)] ?_
 refine OD.nil (CD.ret ?_)
 (try dsimp only);first | refine X01 ?_ | refine X02 ?_
 exact rO 2 (.i64 n) [.box [.row 1 0 (n+1) (n+1),.i64 first,.i64 sz],.row 9 (n+1) ((L++[Sta.splits x y]).flatMap X03)] (⟨_,by rw [List.length_append,hn];rfl,rfl,rfl⟩)
theorem XAt (x:Nat) (L:List Sta) (n:Nat) (first sz:Int) (hn:L.length=n) (hb:n≤1000000):FnD P ov 47 [.loc 0 0,.agg [.i64 3,.i64 0,.lit (.slice none 0 0),.bool false,.lit (.slice none 0 0),.i64 0,.i64 0,.i64 x,.i64 0]] [.box [.row 1 0 n n,.i64 first,.i64 sz],.row 9 n (L.flatMap X03)] (fun r L1=>∃ n1,(L++[Sta.begins x]).length=n1∧r=.i64 n∧L1=[.box [.row 1 0 n1 n1,.i64 first,.i64 sz],.row 9 n1 ((L++[Sta.begins x]).flatMap X03)]):=by
 refine FnD.intro (by kernel_rfl) (fn:=Tryz.f47) (by kernel_rfl) rfl (by kernel_rfl) fun M a0 g0 hg0=>?_
 refine CD.seq (CD.region ?_)
 refine OD.rL 2 [(0,.loc 0 0),(3,.loc 2 0)] [.box [.row 1 0 n n,.i64 first,.i64 sz],.row 9 n (L.flatMap X03),.box [.i64 3,.i64 0,.lit (.slice none 0 0),.bool false,.lit (.slice none 0 0),.i64 0,.i64 0,.i64 x,.i64 0]] ?_
 refine OD.nil (CD.seq ?_)
 refine CD.drawn (by kernel_rfl) ?_
 refine OD.rE 6 [(0,.loc 0 0),(5,.loc 0 0),(6,.loc 0 0),(7,.loc 0 0),(8,.loc 0 0),(9,.row 1 0 n n),(10,.agg [.i64 3,.i64 0,.lit (.slice none 0 0),.bool false,.lit (.slice none 0 0),.i64 0,.i64 0,.i64 x,.i64 0])] ?_
 refine OD.bsl (e:=9) (cs:=[.i64 3,.i64 0,.lit (.slice none 0 0),.bool false,.lit (.slice none 0 0),.i64 0,.i64 0,.i64 x,.i64 0]) rfl (by kernel_rfl) ?_
 refine OD.rE 0 [(0,.loc 0 0),(5,.loc 0 0),(6,.loc 0 0),(7,.loc 0 0),(8,.loc 0 0),(9,.row 1 0 n n),(11,.sl 9 1 [.i64 3,.i64 0,.lit (.slice none 0 0),.bool false,.lit (.slice none 0 0),.i64 0,.i64 0,.i64 x,.i64 0])] ?_
 refine OD.appE (enc:=X03) (xs:=L) (vs:=[Sta.begins x]) rfl (by kernel_rfl) rfl rfl rfl (by rfl) X0Q (by first | omega | (simp<;>omega)) (by decide) (by omega) (by omega) ?_
 refine OD.rL 3 [(0,.loc 0 0),(5,.loc 0 0),(6,.loc 0 0),(7,.loc 0 0),(8,.loc 0 0),(9,.cmp)] [.box [.row 1 0 (n+1) (n+1),.i64 first,.i64 sz],.row 9 (n+1) ((L++[Sta.begins x]).flatMap X03),.box [.i64 3,.i64 0,.lit (.slice none 0 0),.bool false,.lit (.slice none 0 0),.i64 0,.i64 0,.i64 x,.i64 0]] ?_
 refine OD.nil ⟨by kernel_rfl,?_⟩
 refine CD.seq (CD.region ?_)
 refine OD.rE 6 [(20,.i64 (X05 .i64 (((n+1:Nat):Int) - 1)))] ?_
 refine OD.is 20 rfl (wrn (m:=n) (by omega) (by omega)) ?_
 refine OD.rE 1 [(4,.i64 n)] ?_
 refine OD.nil (CD.ret ?_)
 (try dsimp only);first | refine X01 ?_ | refine X02 ?_
 exact rO 2 (.i64 n) [.box [.row 1 0 (n+1) (n+1),.i64 first,.i64 sz],.row 9 (n+1) ((L++[Sta.begins x]).flatMap X03)] (⟨_,by rw [List.length_append,hn];rfl,rfl,rfl⟩)
theorem XE9 (x:Nat) (L:List Sta) (n:Nat) (first sz:Int) (hn:L.length=n) (hb:n≤1000000):FnD P ov 47 [.loc 0 0,.agg [.i64 4,.i64 0,.lit (.slice none 0 0),.bool false,.lit (.slice none 0 0),.i64 0,.i64 0,.i64 x,.i64 0]] [.box [.row 1 0 n n,.i64 first,.i64 sz],.row 9 n (L.flatMap X03)] (fun r L1=>∃ n1,(L++[Sta.ends x]).length=n1∧r=.i64 n∧L1=[.box [.row 1 0 n1 n1,.i64 first,.i64 sz],.row 9 n1 ((L++[Sta.ends x]).flatMap X03)]):=by
 refine FnD.intro (by kernel_rfl) (fn:=Tryz.f47) (by kernel_rfl) rfl (by kernel_rfl) fun M a0 g0 hg0=>?_
 refine CD.seq (CD.region ?_)
 refine OD.rL 2 [(0,.loc 0 0),(3,.loc 2 0)] [.box [.row 1 0 n n,.i64 first,.i64 sz],.row 9 n (L.flatMap X03),.box [.i64 4,.i64 0,.lit (.slice none 0 0),.bool false,.lit (.slice none 0 0),.i64 0,.i64 0,.i64 x,.i64 0]] ?_
 refine OD.nil (CD.seq ?_)
 refine CD.drawn (by kernel_rfl) ?_
 refine OD.rE 6 [(0,.loc 0 0),(5,.loc 0 0),(6,.loc 0 0),(7,.loc 0 0),(8,.loc 0 0),(9,.row 1 0 n n),(10,.agg [.i64 4,.i64 0,.lit (.slice none 0 0),.bool false,.lit (.slice none 0 0),.i64 0,.i64 0,.i64 x,.i64 0])] ?_
 refine OD.bsl (e:=9) (cs:=[.i64 4,.i64 0,.lit (.slice none 0 0),.bool false,.lit (.slice none 0 0),.i64 0,.i64 0,.i64 x,.i64 0]) rfl (by kernel_rfl) ?_
 refine OD.rE 0 [(0,.loc 0 0),(5,.loc 0 0),(6,.loc 0 0),(7,.loc 0 0),(8,.loc 0 0),(9,.row 1 0 n n),(11,.sl 9 1 [.i64 4,.i64 0,.lit (.slice none 0 0),.bool false,.lit (.slice none 0 0),.i64 0,.i64 0,.i64 x,.i64 0])] ?_
 refine OD.appE (enc:=X03) (xs:=L) (vs:=[Sta.ends x]) rfl (by kernel_rfl) rfl rfl rfl (by rfl) X0Q (by first | omega | (simp<;>omega)) (by decide) (by omega) (by omega) ?_
 refine OD.rL 3 [(0,.loc 0 0),(5,.loc 0 0),(6,.loc 0 0),(7,.loc 0 0),(8,.loc 0 0),(9,.cmp)] [.box [.row 1 0 (n+1) (n+1),.i64 first,.i64 sz],.row 9 (n+1) ((L++[Sta.ends x]).flatMap X03),.box [.i64 4,.i64 0,.lit (.slice none 0 0),.bool false,.lit (.slice none 0 0),.i64 0,.i64 0,.i64 x,.i64 0]] ?_
 refine OD.nil ⟨by kernel_rfl,?_⟩
 refine CD.seq (CD.region ?_)
 refine OD.rE 6 [(20,.i64 (X05 .i64 (((n+1:Nat):Int) - 1)))] ?_
 refine OD.is 20 rfl (wrn (m:=n) (by omega) (by omega)) ?_
 refine OD.rE 1 [(4,.i64 n)] ?_
 refine OD.nil (CD.ret ?_)
 (try dsimp only);first | refine X01 ?_ | refine X02 ?_
 exact rO 2 (.i64 n) [.box [.row 1 0 (n+1) (n+1),.i64 first,.i64 sz],.row 9 (n+1) ((L++[Sta.ends x]).flatMap X03)] (⟨_,by rw [List.length_append,hn];rfl,rfl,rfl⟩)
theorem XEA (L:List Sta) (n:Nat) (first sz:Int) (hn:L.length=n) (hb:n≤1000000):FnD P ov 47 [.loc 0 0,.agg [.i64 5,.i64 0,.lit (.slice none 0 0),.bool false,.lit (.slice none 0 0),.i64 0,.i64 0,.i64 0,.i64 0]] [.box [.row 1 0 n n,.i64 first,.i64 sz],.row 9 n (L.flatMap X03)] (fun r L1=>∃ n1,(L++[Sta.done]).length=n1∧r=.i64 n∧L1=[.box [.row 1 0 n1 n1,.i64 first,.i64 sz],.row 9 n1 ((L++[Sta.done]).flatMap X03)]):=by
 refine FnD.intro (by kernel_rfl) (fn:=Tryz.f47) (by kernel_rfl) rfl (by kernel_rfl) fun M a0 g0 hg0=>?_
 refine CD.seq (CD.region ?_)
 refine OD.rL 2 [(0,.loc 0 0),(3,.loc 2 0)] [.box [.row 1 0 n n,.i64 first,.i64 sz],.row 9 n (L.flatMap X03),.box [.i64 5,.i64 0,.lit (.slice none 0 0),.bool false,.lit (.slice none 0 0),.i64 0,.i64 0,.i64 0,.i64 0]] ?_
 refine OD.nil (CD.seq ?_)
 refine CD.drawn (by kernel_rfl) ?_
 refine OD.rE 6 [(0,.loc 0 0),(5,.loc 0 0),(6,.loc 0 0),(7,.loc 0 0),(8,.loc 0 0),(9,.row 1 0 n n),(10,.agg [.i64 5,.i64 0,.lit (.slice none 0 0),.bool false,.lit (.slice none 0 0),.i64 0,.i64 0,.i64 0,.i64 0])] ?_
 refine OD.bsl (e:=9) (cs:=[.i64 5,.i64 0,.lit (.slice none 0 0),.bool false,.lit (.slice none 0 0),.i64 0,.i64 0,.i64 0,.i64 0]) rfl (by kernel_rfl) ?_
 refine OD.rE 0 [(0,.loc 0 0),(5,.loc 0 0),(6,.loc 0 0),(7,.loc 0 0),(8,.loc 0 0),(9,.row 1 0 n n),(11,.sl 9 1 [.i64 5,.i64 0,.lit (.slice none 0 0),.bool false,.lit (.slice none 0 0),.i64 0,.i64 0,.i64 0,.i64 0])] ?_
 refine OD.appE (enc:=X03) (xs:=L) (vs:=[Sta.done]) rfl (by kernel_rfl) rfl rfl rfl (by rfl) X0Q (by first | omega | (simp<;>omega)) (by decide) (by omega) (by omega) ?_
 refine OD.rL 3 [(0,.loc 0 0),(5,.loc 0 0),(6,.loc 0 0),(7,.loc 0 0),(8,.loc 0 0),(9,.cmp)] [.box [.row 1 0 (n+1) (n+1),.i64 first,.i64 sz],.row 9 (n+1) ((L++[Sta.done]).flatMap X03),.box [.i64 5,.i64 0,.lit (.slice none 0 0),.bool false,.lit (.slice none 0 0),.i64 0,.i64 0,.i64 0,.i64 0]] ?_
 refine OD.nil ⟨by kernel_rfl,?_⟩
 refine CD.seq (CD.region ?_)
 refine OD.rE 6 [(20,.i64 (X05 .i64 (((n+1:Nat):Int) - 1)))] ?_
 refine OD.is 20 rfl (wrn (m:=n) (by omega) (by omega)) ?_
 refine OD.rE 1 [(4,.i64 n)] ?_
 refine OD.nil (CD.ret ?_)
 (try dsimp only);first | refine X01 ?_ | refine X02 ?_
 exact rO 2 (.i64 n) [.box [.row 1 0 (n+1) (n+1),.i64 first,.i64 sz],.row 9 (n+1) ((L++[Sta.done]).flatMap X03)] (⟨_,by rw [List.length_append,hn];rfl,rfl,rfl⟩)
end
end Go.Proofs.YtiebldaihnbkmaaGreatDoor
set_option maxRecDepth 100000
set_option maxHeartbeats 4000000
namespace Go.Proofs.YtiebldaihnbkmaaGreatDoor
open Go.Vai Go.Nfa
noncomputable section
theorem XAu (k:Int) (set:List (Int×Int)) (no:Bool) (kids:List Nd) (mn mx:Int) (k1:Int) (set1:List (Int×Int)) (no1:Bool) (kids1:List Nd) (mn1 mx1:Int) (L:List Sta) (n next:Nat) (first sz:Int) (hn:L.length=n) (hx:kids[0]?=some (.mk k1 set1 no1 kids1 mn1 mx1)) (hlx:X0L X16 (.mk k1 set1 no1 kids1 mn1 mx1)) (hk:0≤mn∧mn≤9∧mx≤9∧(mx = -1∨mn≤mx)) (hkl:1≤kids.length∧kids.length<4611686018427387904) (hbd:n+(if mx<0 then mn+1 else mx).toNat*(10*wt K14 (.mk k1 set1 no1 kids1 mn1 mx1))≤999990) (hB:∀ (L:List Sta) (n next:Nat),L.length=n→n+10*wt K14 (.mk k1 set1 no1 kids1 mn1 mx1)≤1000000→FnD P ov 46 [.loc 0 0,.agg [.i64 k1,.sl 2 set1.length (set1.flatMap X0s),.bool no1,.sl 6 kids1.length (X0R kids1),.i64 mn1,.i64 mx1],.i64 next] [.box [.row 1 0 n n,.i64 first,.i64 sz],.row 9 n (L.flatMap X03)] (XE4 first sz (build K14 (.mk k1 set1 no1 kids1 mn1 mx1) L next))):FnD P ov 65 [.loc 0 0,.agg [.i64 k,.sl 2 set.length (set.flatMap X0s),.bool no,.sl 6 kids.length (X0R kids),.i64 mn,.i64 mx],.i64 next] [.box [.row 1 0 n n,.i64 first,.i64 sz],.row 9 n (L.flatMap X03)] (XE4 first sz (X15 K14 kids mn mx L next)):=by
 rw [XBv hk.1 hk.2.2.2]at hbd
 refine FnD.intro (by kernel_rfl) (fn:=Tryz.f65) (by kernel_rfl) rfl (by kernel_rfl) fun M a0 g0 hg0=>?_
 refine CD.seq (CD.region ?_)
 refine OD.rL 2 [(0,.loc 0 0),(2,.i64 next),(4,.loc 2 0)] [.box [.row 1 0 n n,.i64 first,.i64 sz],.row 9 n (L.flatMap X03),.box (cN k set no kids mn mx)] ?_
 refine OD.nil (CD.seq (CD.region ?_))
 refine OD.rE 2 [(0,.loc 0 0),(2,.i64 next),(4,.loc 2 0),(12,.sl 6 kids.length (X0R kids))] ?_
 refine OD.idx rfl rfl (by kernel_rfl) (by omega) (by omega) ?_
 refine OD.rE 0 [(0,.loc 0 0),(2,.i64 next),(4,.loc 2 0),(13,.ep 6 kids.length (X0R kids) ((0:Int).toNat*6))] ?_
 refine OD.ldA rfl (by kernel_rfl) (by kernel_rfl) (XAq hx) rfl (by decide) ?_
 refine OD.rL 2 [(0,.loc 0 0),(2,.i64 next),(4,.loc 2 0),(7,.loc 3 0)] [.box [.row 1 0 n n,.i64 first,.i64 sz],.row 9 n (L.flatMap X03),.box (cN k set no kids mn mx),.box (cN k1 set1 no1 kids1 mn1 mx1)] ?_
 refine OD.nil ?_
 refine CD.seqM (fun σ=>∃ (R:List Sta×Nat) (m:Nat),σ=⟨[(0,.loc 0 0),(2,.i64 R.2),(4,.loc 2 0),(7,.loc 3 0)],[.box [.row 1 0 m m,.i64 first,.i64 sz],.row 9 m (R.1.flatMap X03),.box (cN k set no kids mn mx),.box (cN k1 set1 no1 kids1 mn1 mx1)]⟩∧(R=X7C (build K14 (.mk k1 set1 no1 kids1 mn1 mx1)) mx L next)∧(R.1.length=m)∧(m≤n+(if mx<0 then 10*wt K14 (.mk k1 set1 no1 kids1 mn1 mx1)else 0))) ?_ (fun σ hI=>?_)
 ·
  refine CD.seq (CD.region ?_)
  refine OD.rE 3 [(0,.loc 0 0),(2,.i64 next),(4,.loc 2 0),(7,.loc 3 0),(17,.bool (decide ((mx:Int)<0)))] ?_
  refine OD.nil ?_
  refine CD.condP rfl (fun h1=>?_) (fun h1=>?_)
  ·
   have hif:(if mx<0 then 10*wt K14 (.mk k1 set1 no1 kids1 mn1 mx1)else 0)=10*wt K14 (.mk k1 set1 no1 kids1 mn1 mx1):=if_pos h1
   refine CD.seq (CD.region ?_)
   refine OD.rE 3 [(0,.loc 0 0),(4,.loc 2 0),(7,.loc 3 0),(18,.loc 0 0),(20,.agg [.i64 2,.i64 0,.lit (.slice none 0 0),.bool false,.lit (.slice none 0 0),.i64 0,.i64 0,.i64 0,.i64 next])] ?_
   refine OD.cO [0,1] [.loc 0 0,.agg [.i64 2,.i64 0,.lit (.slice none 0 0),.bool false,.lit (.slice none 0 0),.i64 0,.i64 0,.i64 0,.i64 next]] (X4Q 0 next L n first sz (by first | assumption | rfl) (by omega)) (fun r L1 hr=>?_)
   obtain⟨m1,hm1,rfl,rfl⟩:=hr
   have hblm1:m1=n+1:=by rw [← hm1,List.length_append];simp only [List.length_singleton,List.length_nil]<;>omega
   refine OD.rE 1 [(0,.loc 0 0),(4,.loc 2 0),(7,.loc 3 0),(8,.i64 n)] ?_
   refine OD.nil (CD.seq (CD.region ?_))
   refine OD.rE 3 [(0,.loc 0 0),(4,.loc 2 0),(7,.loc 3 0),(8,.i64 n),(22,.loc 0 0),(23,.agg (cN k1 set1 no1 kids1 mn1 mx1)),(24,.i64 n)] ?_
   refine OD.cO [0,1] [.loc 0 0,.agg (cN k1 set1 no1 kids1 mn1 mx1),.i64 n] (hB (L++[(Sta.splits 0 next)]) m1 n (by assumption) (by omega)) (fun r L1 hr=>?_)
   have hblm2:=X1E (.mk k1 set1 no1 kids1 mn1 mx1) hlx (L++[(Sta.splits 0 next)]) n
   have hbgm2:=X2i hlx (L++[(Sta.splits 0 next)]) n
   obtain⟨m2,hm2,rfl,rfl⟩:=hr
   refine OD.rE 1 [(0,.loc 0 0),(4,.loc 2 0),(7,.loc 3 0),(8,.i64 n),(9,.i64 (((build K14 (.mk k1 set1 no1 kids1 mn1 mx1) (L++[(Sta.splits 0 next)]) n).2:Nat):Int))] ?_
   refine OD.nil (CD.seq (CD.region ?_))
   refine OD.rE 6 [(0,.loc 0 0),(4,.loc 2 0),(7,.loc 3 0),(8,.i64 n),(29,.row 1 0 m2 m2),(30,.i64 n),(31,.i64 (((build K14 (.mk k1 set1 no1 kids1 mn1 mx1) (L++[(Sta.splits 0 next)]) n).2:Nat):Int))] ?_
   refine OD.idxE (i:=n) (e:=9) rfl rfl (by kernel_rfl) (by omega) (by omega) ?_
   refine OD.rE 1 [(0,.loc 0 0),(4,.loc 2 0),(7,.loc 3 0),(8,.i64 n),(31,.i64 (((build K14 (.mk k1 set1 no1 kids1 mn1 mx1) (L++[(Sta.splits 0 next)]) n).2:Nat):Int)),(33,.loc 1 (n*9+7))] ?_
   have hg:=XAr (x:=(.mk k1 set1 no1 kids1 mn1 mx1)) (L:=L) (s:=.splits 0 next) (next:=n) hlx hn
   refine OD.stE rfl rfl rfl rfl (by kernel_rfl) (by kernel_rfl) (by rw [X5E X0Q];omega) (XE3 hg) ?_
   have hset:(((build K14 (.mk k1 set1 no1 kids1 mn1 mx1) (L++[(Sta.splits 0 next)]) n).1).set n (.splits ((build K14 (.mk k1 set1 no1 kids1 mn1 mx1) (L++[(Sta.splits 0 next)]) n).2) next)).length=m2:=by rw [List.length_set];assumption
   refine OD.rE 0 [(0,.loc 0 0),(4,.loc 2 0),(7,.loc 3 0),(8,.i64 n)] ?_
   refine OD.nil (CD.region ?_)
   refine OD.rE 2 [(0,.loc 0 0),(2,.i64 n),(4,.loc 2 0),(7,.loc 3 0)] ?_
   refine OD.nil ?_
   exact⟨((((build K14 (.mk k1 set1 no1 kids1 mn1 mx1) (L++[(Sta.splits 0 next)]) n).1).set n (.splits ((build K14 (.mk k1 set1 no1 kids1 mn1 mx1) (L++[(Sta.splits 0 next)]) n).2) next)),n),_,(by kernel_rfl),by rw [X7C,if_pos h1,hn],by assumption,by rw [if_pos h1];omega⟩
  ·
   refine CD.weak [0,2,4,7] 4 (E':=[(0,.loc 0 0),(2,.i64 next),(4,.loc 2 0),(7,.loc 3 0)]) (by kernel_rfl) (by simp [hg0]) (by kernel_rfl) ?_
   refine CD.skip ?_
   exact⟨(L,next),_,(by kernel_rfl),by rw [X7C,if_neg h1],by assumption,by rw [if_neg h1];omega⟩
 ·
  obtain⟨R,m,e,hR,hm,hmb⟩:=hI
  subst e
  refine CD.seq (CD.region ?_)
  refine OD.rE 2 [(0,.loc 0 0),(2,.i64 R.2),(4,.loc 2 0),(7,.loc 3 0),(10,.i64 R.2)] ?_
  refine OD.nil (CD.seq (CD.seq (CD.region ?_)))
  refine OD.rE 5 [(0,.loc 0 0),(2,.i64 R.2),(4,.loc 2 0),(7,.loc 3 0),(10,.i64 R.2),(40,.i64 (X05 .i64 (mx - mn)))] ?_
  refine OD.is 40 rfl (XF1 (by omega) (by omega)) ?_
  refine OD.rE 1 [(0,.loc 0 0),(2,.i64 R.2),(4,.loc 2 0),(7,.loc 3 0),(10,.i64 R.2),(40,.i64 (mx - mn)),(41,.i64 0)] ?_
  refine OD.nil (CD.block ?_)
  refine CD.weak [0,2,4,7,10,40,41] 4 (E':=[(0,.loc 0 0),(2,.i64 R.2),(4,.loc 2 0),(7,.loc 3 0),(10,.i64 R.2),(40,.i64 (mx - mn)),(41,.i64 0)]) (by kernel_rfl) (by simp [hg0]) (by kernel_rfl) ?_
  refine CD.loop (fun m σ=>∃ (i:Nat) (S:List Sta×Nat) (q:Nat),σ=⟨[(0,.loc 0 0),(2,.i64 S.2),(4,.loc 2 0),(7,.loc 3 0),(10,.i64 R.2),(40,.i64 (mx - mn)),(41,.i64 i)],[.box [.row 1 0 q q,.i64 first,.i64 sz],.row 9 q (S.1.flatMap X03),.box (cN k set no kids mn mx),.box (cN k1 set1 no1 kids1 mn1 mx1)]⟩∧(i≤(mx - mn).toNat)∧(S=((List.range i).foldl (fun r _=>XDr (build K14 (.mk k1 set1 no1 kids1 mn1 mx1)) R.2 r) R))∧(S.1.length=q)∧(q+((mx - mn).toNat - i)*(10*wt K14 (.mk k1 set1 no1 kids1 mn1 mx1))+mn.toNat*(10*wt K14 (.mk k1 set1 no1 kids1 mn1 mx1))≤1000000)∧m=(mx - mn).toNat - i) (fun m σ hI=>?_) _ ⟨0,R,m,(by kernel_rfl),Nat.zero_le _,rfl,hm,by rw [Nat.sub_zero];omega,rfl⟩
  obtain⟨i,S,q,e,hi,hS,hq,hqb,hm⟩:=hI
  subst e hm
  refine CD.seq (CD.region ?_)
  refine OD.rE 1 [(0,.loc 0 0),(2,.i64 S.2),(4,.loc 2 0),(7,.loc 3 0),(10,.i64 R.2),(40,.i64 (mx - mn)),(41,.i64 i),(42,.bool (decide ((((i:Nat):Int):Int)<(mx - mn))))] ?_
  refine OD.nil (CD.seq ?_)
  refine CD.condP rfl (fun h2=>?_) (fun h2=>?_)
  ·
   have hsm:=XBu (c:=(mx - mn).toNat) (i:=i) (W:=10*wt K14 (.mk k1 set1 no1 kids1 mn1 mx1)) (by omega)
   refine CD.skip (CD.seq (CD.block (CD.region ?_)))
   refine OD.rE 4 [(0,.loc 0 0),(4,.loc 2 0),(7,.loc 3 0),(10,.i64 R.2),(40,.i64 (mx - mn)),(41,.i64 i),(43,.loc 0 0),(44,.loc 0 0),(45,.agg (cN k1 set1 no1 kids1 mn1 mx1)),(46,.i64 S.2)] ?_
   refine OD.cO [0,1] [.loc 0 0,.agg (cN k1 set1 no1 kids1 mn1 mx1),.i64 S.2] (hB S.1 q S.2 (by assumption) (by omega)) (fun r L1 hr=>?_)
   have hblm3:=X1E (.mk k1 set1 no1 kids1 mn1 mx1) hlx S.1 S.2
   have hbgm3:=X2i hlx S.1 S.2
   obtain⟨m3,hm3,rfl,rfl⟩:=hr
   refine OD.rE 2 [(0,.loc 0 0),(4,.loc 2 0),(7,.loc 3 0),(10,.i64 R.2),(40,.i64 (mx - mn)),(41,.i64 i),(43,.loc 0 0),(49,.agg [.i64 2,.i64 0,.lit (.slice none 0 0),.bool false,.lit (.slice none 0 0),.i64 0,.i64 0,.i64 (((build K14 (.mk k1 set1 no1 kids1 mn1 mx1) S.1 S.2).2:Nat):Int),.i64 R.2])] ?_
   refine OD.cO [0,1] [.loc 0 0,.agg [.i64 2,.i64 0,.lit (.slice none 0 0),.bool false,.lit (.slice none 0 0),.i64 0,.i64 0,.i64 (((build K14 (.mk k1 set1 no1 kids1 mn1 mx1) S.1 S.2).2:Nat):Int),.i64 R.2]] (X4Q ((build K14 (.mk k1 set1 no1 kids1 mn1 mx1) S.1 S.2).2) R.2 ((build K14 (.mk k1 set1 no1 kids1 mn1 mx1) S.1 S.2).1) m3 first sz (by first | assumption | rfl) (by omega)) (fun r L1 hr=>?_)
   obtain⟨m4,hm4,rfl,rfl⟩:=hr
   have hblm4:m4=m3+1:=by rw [← hm4,List.length_append];simp only [List.length_singleton,List.length_nil]<;>omega
   refine OD.rE 1 [(0,.loc 0 0),(2,.i64 m3),(4,.loc 2 0),(7,.loc 3 0),(10,.i64 R.2),(40,.i64 (mx - mn)),(41,.i64 i)] ?_
   refine OD.nil (CD.region ?_)
   refine OD.rE 1 [(0,.loc 0 0),(2,.i64 m3),(4,.loc 2 0),(7,.loc 3 0),(10,.i64 R.2),(40,.i64 (mx - mn)),(51,.i64 (X05 .i64 (((i:Nat):Int)+1)))] ?_
   refine OD.is 51 rfl (wrn (m:=i+1) (by omega) (by omega)) ?_
   refine OD.rE 1 [(0,.loc 0 0),(2,.i64 m3),(4,.loc 2 0),(7,.loc 3 0),(10,.i64 R.2),(40,.i64 (mx - mn)),(41,.i64 ((i+1:Nat):Int))] ?_
   refine OD.nil ?_
   exact⟨_,by omega,i+1,(((build K14 (.mk k1 set1 no1 kids1 mn1 mx1) S.1 S.2).1++[(Sta.splits ((build K14 (.mk k1 set1 no1 kids1 mn1 mx1) S.1 S.2).2) R.2)]),m3),_,(by kernel_rfl),by omega,by rw [X6b,← hS,XDr];rw [Prod.mk.injEq];exact⟨rfl,by omega⟩,by assumption,by omega,rfl⟩
  ·
   refine CD.exit ?_
   refine CD.seq (CD.seq (CD.region ?_))
   refine OD.rE 3 [(0,.loc 0 0),(2,.i64 S.2),(7,.loc 3 0),(53,.i64 mn),(54,.i64 0)] ?_
   refine OD.nil (CD.block ?_)
   refine CD.weak [0,2,7,53,54] 4 (E':=[(0,.loc 0 0),(2,.i64 S.2),(7,.loc 3 0),(53,.i64 mn),(54,.i64 0)]) (by kernel_rfl) (by simp [hg0]) (by kernel_rfl) ?_
   refine CD.loop (fun m σ=>∃ (i:Nat) (S:List Sta×Nat) (q:Nat),σ=⟨[(0,.loc 0 0),(2,.i64 S.2),(7,.loc 3 0),(53,.i64 mn),(54,.i64 i)],[.box [.row 1 0 q q,.i64 first,.i64 sz],.row 9 q (S.1.flatMap X03),.box (cN k set no kids mn mx),.box (cN k1 set1 no1 kids1 mn1 mx1)]⟩∧(i≤mn.toNat)∧(S=((List.range i).foldl (fun r _=>XFb (build K14 (.mk k1 set1 no1 kids1 mn1 mx1)) r) (((List.range (mx - mn).toNat).foldl (fun r _=>XDr (build K14 (.mk k1 set1 no1 kids1 mn1 mx1)) R.2 r) R))))∧(S.1.length=q)∧(q+(mn.toNat - i)*(10*wt K14 (.mk k1 set1 no1 kids1 mn1 mx1))≤1000000)∧m=mn.toNat - i) (fun m σ hI=>?_) _ ⟨0,S,q,(by kernel_rfl),Nat.zero_le _,by rw [show i=(mx - mn).toNat by omega]at hS;exact hS,hq,by rw [Nat.sub_zero];omega,rfl⟩
   obtain⟨i,S,q,e,hi,hS,hq,hqb,hm⟩:=hI
   subst e hm
   refine CD.seq (CD.region ?_)
   refine OD.rE 1 [(0,.loc 0 0),(2,.i64 S.2),(7,.loc 3 0),(53,.i64 mn),(54,.i64 i),(55,.bool (decide ((((i:Nat):Int):Int)<mn)))] ?_
   refine OD.nil (CD.seq ?_)
   refine CD.condP rfl (fun h3=>?_) (fun h3=>?_)
   ·
    have hsm:=XBu (c:=mn.toNat) (i:=i) (W:=10*wt K14 (.mk k1 set1 no1 kids1 mn1 mx1)) (by omega)
    refine CD.skip (CD.seq (CD.block (CD.region ?_)))
    refine OD.rE 3 [(0,.loc 0 0),(7,.loc 3 0),(53,.i64 mn),(54,.i64 i),(56,.loc 0 0),(57,.agg (cN k1 set1 no1 kids1 mn1 mx1)),(58,.i64 S.2)] ?_
    refine OD.cO [0,1] [.loc 0 0,.agg (cN k1 set1 no1 kids1 mn1 mx1),.i64 S.2] (hB S.1 q S.2 (by assumption) (by omega)) (fun r L1 hr=>?_)
    have hblm5:=X1E (.mk k1 set1 no1 kids1 mn1 mx1) hlx S.1 S.2
    have hbgm5:=X2i hlx S.1 S.2
    obtain⟨m5,hm5,rfl,rfl⟩:=hr
    refine OD.rE 1 [(0,.loc 0 0),(2,.i64 (((build K14 (.mk k1 set1 no1 kids1 mn1 mx1) S.1 S.2).2:Nat):Int)),(7,.loc 3 0),(53,.i64 mn),(54,.i64 i)] ?_
    refine OD.nil (CD.region ?_)
    refine OD.rE 1 [(0,.loc 0 0),(2,.i64 (((build K14 (.mk k1 set1 no1 kids1 mn1 mx1) S.1 S.2).2:Nat):Int)),(7,.loc 3 0),(53,.i64 mn),(60,.i64 (X05 .i64 (((i:Nat):Int)+1)))] ?_
    refine OD.is 60 rfl (wrn (m:=i+1) (by omega) (by omega)) ?_
    refine OD.rE 1 [(0,.loc 0 0),(2,.i64 (((build K14 (.mk k1 set1 no1 kids1 mn1 mx1) S.1 S.2).2:Nat):Int)),(7,.loc 3 0),(53,.i64 mn),(54,.i64 ((i+1:Nat):Int))] ?_
    refine OD.nil ?_
    exact⟨_,by omega,i+1,((build K14 (.mk k1 set1 no1 kids1 mn1 mx1) S.1 S.2).1,((build K14 (.mk k1 set1 no1 kids1 mn1 mx1) S.1 S.2).2)),_,(by kernel_rfl),by omega,by rw [X6b,← hS,XFb],by assumption,by omega,rfl⟩
   ·
    refine CD.exit ?_
    refine CD.seq (CD.region ?_)
    refine OD.rE 2 [(6,.i64 S.2)] ?_
    refine OD.nil (CD.ret ?_)
    (try dsimp only);first | refine X01 ?_ | refine X02 ?_
    exact rO 2 (.i64 S.2) [.box [.row 1 0 q q,.i64 first,.i64 sz],.row 9 q (S.1.flatMap X03)] (X2h (by rw [X3q hx,← hR,hS,show i=mn.toNat by omega]) hq)
theorem XEB:∀ (m:Nat) (k:Int) (set:List (Int×Int)) (no:Bool) (kids:List Nd) (mn mx:Int) (L:List Sta) (n next:Nat) (first sz:Int),size (.mk k set no kids mn mx)≤m→fit (.mk k set no kids mn mx)→X0L X16 (.mk k set no kids mn mx)→L.length=n→n+10*wt K14 (.mk k set no kids mn mx)≤1000000→FnD P ov 46 [.loc 0 0,.agg [.i64 k,.sl 2 set.length (set.flatMap X0s),.bool no,.sl 6 kids.length (X0R kids),.i64 mn,.i64 mx],.i64 next] [.box [.row 1 0 n n,.i64 first,.i64 sz],.row 9 n (L.flatMap X03)] (XE4 first sz (build K14 (.mk k set no kids mn mx) L next)):=by
 intro m
 induction m with
 | zero=>intro k set no kids mn mx L n next first sz hs;exact absurd hs (by have:=X58 (.mk k set no kids mn mx);omega)
 | succ m ih =>
  intro k set no kids mn mx L n next first sz hs hf hl hn hbd
  have hf2:=hf.2.1
  have hf1:=hf.1
  refine FnD.intro (by kernel_rfl) (fn:=Tryz.f46) (by kernel_rfl) rfl (by kernel_rfl) fun M a0 g0 hg0=>?_
  refine CD.seq (CD.region ?_)
  refine OD.rL 2 [(0,.loc 0 0),(2,.i64 next),(4,.loc 2 0)] [.box [.row 1 0 n n,.i64 first,.i64 sz],.row 9 n (L.flatMap X03),.box (cN k set no kids mn mx)] ?_
  refine OD.nil (CD.seq (CD.seq (CD.region ?_)))
  refine OD.rE 2 [(0,.loc 0 0),(2,.i64 next),(4,.loc 2 0),(12,.i64 k)] ?_
  refine OD.nil (CD.block (CD.seq (CD.region ?_)))
  refine OD.rE 2 [(0,.loc 0 0),(2,.i64 next),(4,.loc 2 0),(12,.i64 k),(13,.bool (decide ((k:Int)=2)))] ?_
  refine OD.nil ?_
  refine CD.condP rfl (fun h1=>?_) (fun h1=>?_)
  ·
   refine CD.seq (CD.region ?_)
   refine OD.rE 2 [(2,.i64 next),(15,.loc 0 0),(16,.agg (cN k set no kids mn mx))] ?_
   refine OD.is 16 rfl (XE2 hl h1) ?_
   refine OD.rE 2 [(15,.loc 0 0),(18,.agg [.i64 1,.i64 2,.sl 2 set.length (set.flatMap X0s),.bool no,.sl 6 0 ([]),.i64 0,.i64 0,.i64 next,.i64 0])] ?_
   refine OD.cO [0,1] [.loc 0 0,.agg [.i64 1,.i64 2,.sl 2 set.length (set.flatMap X0s),.bool no,.sl 6 0 ([]),.i64 0,.i64 0,.i64 next,.i64 0]] (XBz set no next L n first sz (by first | assumption | rfl) (by omega)) (fun r L1 hr=>?_)
   obtain⟨m6,hm6,rfl,rfl⟩:=hr
   have hblm6:m6=n+1:=by rw [← hm6,List.length_append];simp only [List.length_singleton,List.length_nil]<;>omega
   refine OD.rE 1 [(6,.i64 n)] ?_
   refine OD.nil (CD.ret ?_)
   (try dsimp only);first | refine X01 ?_ | refine X02 ?_
   exact rO 2 (.i64 n) [.box [.row 1 0 m6 m6,.i64 first,.i64 sz],.row 9 m6 ((L++[(Sta.takes set no next)]).flatMap X03)] (X2h (S:=(_,n)) (by rw [X1a,if_pos h1,hn]) (by assumption))
  ·
   refine CD.seq (CD.region ?_)
   refine OD.rE 2 [(0,.loc 0 0),(2,.i64 next),(4,.loc 2 0),(12,.i64 k),(20,.bool (decide ((k:Int)=6)))] ?_
   refine OD.nil ?_
   refine CD.condP rfl (fun h2=>?_) (fun h2=>?_)
   ·
    refine CD.seq (CD.region ?_)
    refine OD.rE 3 [(22,.loc 0 0),(24,.agg [.i64 3,.i64 0,.lit (.slice none 0 0),.bool false,.lit (.slice none 0 0),.i64 0,.i64 0,.i64 next,.i64 0])] ?_
    refine OD.cO [0,1] [.loc 0 0,.agg [.i64 3,.i64 0,.lit (.slice none 0 0),.bool false,.lit (.slice none 0 0),.i64 0,.i64 0,.i64 next,.i64 0]] (XAt next L n first sz (by first | assumption | rfl) (by omega)) (fun r L1 hr=>?_)
    obtain⟨m7,hm7,rfl,rfl⟩:=hr
    have hblm7:m7=n+1:=by rw [← hm7,List.length_append];simp only [List.length_singleton,List.length_nil]<;>omega
    refine OD.rE 1 [(6,.i64 n)] ?_
    refine OD.nil (CD.ret ?_)
    (try dsimp only);first | refine X01 ?_ | refine X02 ?_
    exact rO 2 (.i64 n) [.box [.row 1 0 m7 m7,.i64 first,.i64 sz],.row 9 m7 ((L++[(Sta.begins next)]).flatMap X03)] (X2h (S:=(_,n)) (by rw [X1a,if_neg h1,if_pos h2,hn]) (by assumption))
   ·
    refine CD.seq (CD.region ?_)
    refine OD.rE 2 [(0,.loc 0 0),(2,.i64 next),(4,.loc 2 0),(12,.i64 k),(26,.bool (decide ((k:Int)=7)))] ?_
    refine OD.nil ?_
    refine CD.condP rfl (fun h3=>?_) (fun h3=>?_)
    ·
     refine CD.seq (CD.region ?_)
     refine OD.rE 3 [(28,.loc 0 0),(30,.agg [.i64 4,.i64 0,.lit (.slice none 0 0),.bool false,.lit (.slice none 0 0),.i64 0,.i64 0,.i64 next,.i64 0])] ?_
     refine OD.cO [0,1] [.loc 0 0,.agg [.i64 4,.i64 0,.lit (.slice none 0 0),.bool false,.lit (.slice none 0 0),.i64 0,.i64 0,.i64 next,.i64 0]] (XE9 next L n first sz (by first | assumption | rfl) (by omega)) (fun r L1 hr=>?_)
     obtain⟨m8,hm8,rfl,rfl⟩:=hr
     have hblm8:m8=n+1:=by rw [← hm8,List.length_append];simp only [List.length_singleton,List.length_nil]<;>omega
     refine OD.rE 1 [(6,.i64 n)] ?_
     refine OD.nil (CD.ret ?_)
     (try dsimp only);first | refine X01 ?_ | refine X02 ?_
     exact rO 2 (.i64 n) [.box [.row 1 0 m8 m8,.i64 first,.i64 sz],.row 9 m8 ((L++[(Sta.ends next)]).flatMap X03)] (X2h (S:=(_,n)) (by rw [X1a,if_neg h1,if_neg h2,if_pos h3,hn]) (by assumption))
    ·
     refine CD.seq (CD.region ?_)
     refine OD.rE 2 [(0,.loc 0 0),(2,.i64 next),(4,.loc 2 0),(12,.i64 k),(32,.bool (decide ((k:Int)=3)))] ?_
     refine OD.nil ?_
     refine CD.condP rfl (fun h4=>?_) (fun h4=>?_)
     ·
      have hwt:wt K14 (.mk k set no kids mn mx)=wtL K14 kids:=by rw [X7B,if_pos h4]
      refine CD.seq (CD.region ?_)
      refine OD.rE 4 [(0,.loc 0 0),(2,.i64 next),(4,.loc 2 0),(37,.i64 (X05 .i64 (((kids.length:Nat):Int) - 1)))] ?_
      refine OD.is 37 rfl (XF1 (by omega) (by omega)) ?_
      refine OD.rE 1 [(0,.loc 0 0),(2,.i64 next),(4,.loc 2 0),(7,.i64 (((kids.length:Nat):Int) - 1))] ?_
      refine OD.nil (CD.block ?_)
      refine CD.weak [0,2,4,7] 3 (E':=[(0,.loc 0 0),(2,.i64 next),(4,.loc 2 0),(7,.i64 (((kids.length:Nat):Int) - 1))]) (by kernel_rfl) (by simp [hg0]) (by kernel_rfl) ?_
      refine CD.loop (fun m σ=>∃ (j:Nat) (S:List Sta×Nat) (q:Nat),σ=⟨[(0,.loc 0 0),(2,.i64 S.2),(4,.loc 2 0),(7,.i64 (((j:Nat):Int) - 1))],[.box [.row 1 0 q q,.i64 first,.i64 sz],.row 9 q (S.1.flatMap X03),.box (cN k set no kids mn mx)]⟩∧(j≤kids.length)∧(S=X0Y K14 (kids.drop j) L next)∧(S.1.length=q)∧(q≤n+10*wtL K14 (kids.drop j))∧m=j+L.length - L.length) (fun m σ hI=>?_) _ ⟨kids.length,(L,next),n,(by kernel_rfl),Nat.le_refl _,by rw [List.drop_length];rfl,hn,by omega,rfl⟩
      obtain⟨j,S,q,e,hj,hS,hq,hqb,hm⟩:=hI
      subst e hm
      refine CD.seq (CD.seq (CD.region ?_))
      refine OD.rE 2 [(0,.loc 0 0),(2,.i64 S.2),(4,.loc 2 0),(7,.i64 (((j:Nat):Int) - 1)),(39,.bool (decide ((0:Int)≤(((j:Nat):Int) - 1))))] ?_
      refine OD.nil ?_
      refine CD.condP rfl (fun h5=>?_) (fun h5=>?_)
      ·
       obtain⟨j2,hj2⟩:∃ j2,j=j2+1:=⟨j - 1,by omega⟩
       obtain⟨⟨k1,set1,no1,kids1,mn1,mx1⟩,hx,hd⟩:=nth (l:=kids) (i:=j2) (by omega)
       rw [hj2]at hS hqb
       have hw1:=XBt hx
       have hw2:=XE5 (kids:=kids) (i:=j2)
       refine CD.skip (CD.seq (CD.block (CD.region ?_)))
       refine OD.rE 4 [(0,.loc 0 0),(2,.i64 S.2),(4,.loc 2 0),(7,.i64 (((j:Nat):Int) - 1)),(42,.loc 0 0),(44,.sl 6 kids.length (X0R kids)),(45,.i64 (((j:Nat):Int) - 1))] ?_
       refine OD.is 45 rfl (congrArg (D.int .i64) (show((j:Nat):Int) - 1=((j2:Nat):Int)by omega)) ?_
       refine OD.rE 0 [(0,.loc 0 0),(2,.i64 S.2),(4,.loc 2 0),(7,.i64 (((j:Nat):Int) - 1)),(42,.loc 0 0),(44,.sl 6 kids.length (X0R kids)),(45,.i64 j2)] ?_
       refine OD.idx rfl rfl (by kernel_rfl) (by omega) (by omega) ?_
       refine OD.rE 0 [(0,.loc 0 0),(2,.i64 S.2),(4,.loc 2 0),(7,.i64 (((j:Nat):Int) - 1)),(42,.loc 0 0),(46,.ep 6 kids.length (X0R kids) ((((j2:Nat):Int):Int).toNat*6))] ?_
       refine OD.ldA rfl (by kernel_rfl) (by kernel_rfl) (XAq hx) rfl (by decide) ?_
       refine OD.rE 1 [(0,.loc 0 0),(4,.loc 2 0),(7,.i64 (((j:Nat):Int) - 1)),(42,.loc 0 0),(47,.agg (cN k1 set1 no1 kids1 mn1 mx1)),(48,.i64 S.2)] ?_
       refine OD.cO [0,1] [.loc 0 0,.agg (cN k1 set1 no1 kids1 mn1 mx1),.i64 S.2] (ih k1 set1 no1 kids1 mn1 mx1 S.1 q S.2 first sz (X2f hs hx) (X4O hf hx) (X10 hl hx) (by assumption) (by omega)) (fun r L1 hr=>?_)
       have hblm9:=X1E (.mk k1 set1 no1 kids1 mn1 mx1) (X10 hl hx) S.1 S.2
       have hbgm9:=X2i (X10 hl hx) S.1 S.2
       obtain⟨m9,hm9,rfl,rfl⟩:=hr
       refine OD.rE 1 [(0,.loc 0 0),(2,.i64 (((build K14 (.mk k1 set1 no1 kids1 mn1 mx1) S.1 S.2).2:Nat):Int)),(4,.loc 2 0),(7,.i64 (((j:Nat):Int) - 1))] ?_
       refine OD.nil (CD.region ?_)
       refine OD.rE 2 [(0,.loc 0 0),(2,.i64 (((build K14 (.mk k1 set1 no1 kids1 mn1 mx1) S.1 S.2).2:Nat):Int)),(4,.loc 2 0),(41,.i64 (X05 .i64 ((((j:Nat):Int) - 1) - 1)))] ?_
       refine OD.is 41 rfl (XF1 (by omega) (by omega)) ?_
       refine OD.rE 1 [(0,.loc 0 0),(2,.i64 (((build K14 (.mk k1 set1 no1 kids1 mn1 mx1) S.1 S.2).2:Nat):Int)),(4,.loc 2 0),(7,.i64 ((((j:Nat):Int) - 1) - 1))] ?_
       refine OD.is 7 rfl (congrArg (D.int .i64) (show((j:Nat):Int) - 1 - 1=((j2:Nat):Int) - 1 by omega)) ?_
       refine OD.rE 0 [(0,.loc 0 0),(2,.i64 (((build K14 (.mk k1 set1 no1 kids1 mn1 mx1) S.1 S.2).2:Nat):Int)),(4,.loc 2 0),(7,.i64 (((j2:Nat):Int) - 1))] ?_
       refine OD.nil ?_
       exact⟨_,by omega,j2,((build K14 (.mk k1 set1 no1 kids1 mn1 mx1) S.1 S.2).1,((build K14 (.mk k1 set1 no1 kids1 mn1 mx1) S.1 S.2).2)),_,(by kernel_rfl),by omega,by rw [hd,X0Y,← hS],by assumption,by omega,rfl⟩
      ·
       refine CD.exit ?_
       refine CD.seq (CD.region ?_)
       refine OD.rE 2 [(6,.i64 S.2)] ?_
       refine OD.nil (CD.ret ?_)
       (try dsimp only);first | refine X01 ?_ | refine X02 ?_
       exact rO 2 (.i64 S.2) [.box [.row 1 0 q q,.i64 first,.i64 sz],.row 9 q (S.1.flatMap X03)] (X2h (by rw [X1a,if_neg h1,if_neg h2,if_neg h3,if_pos h4,hS,show j=0 by omega,List.drop_zero]) hq)
     ·
      refine CD.seq (CD.region ?_)
      refine OD.rE 2 [(0,.loc 0 0),(2,.i64 next),(4,.loc 2 0),(12,.i64 k),(50,.bool (decide ((k:Int)=4)))] ?_
      refine OD.nil ?_
      refine CD.condP rfl (fun h6=>?_) (fun h6=>?_)
      ·
       have hwt:wt K14 (.mk k set no kids mn mx)=wtL K14 kids+1:=by rw [X7B,if_neg (by omega),if_pos h6]
       obtain⟨⟨k1,set1,no1,kids1,mn1,mx1⟩,ns,hks⟩:=XGC (XGD hl (.inr h6))
       have hx:kids[0]?=some (.mk k1 set1 no1 kids1 mn1 mx1):=by rw [hks];rfl
       have hwc:wtL K14 kids=wt K14 (.mk k1 set1 no1 kids1 mn1 mx1)+wtL K14 ns:=by rw [hks,wtL]
       have hkc:kids.length=ns.length+1:=by rw [hks];rfl
       refine CD.seq (CD.region ?_)
       refine OD.rE 3 [(0,.loc 0 0),(2,.i64 next),(4,.loc 2 0),(52,.loc 0 0),(54,.sl 6 kids.length (X0R kids))] ?_
       refine OD.idx rfl rfl (by kernel_rfl) (by omega) (by omega) ?_
       refine OD.rE 0 [(0,.loc 0 0),(2,.i64 next),(4,.loc 2 0),(52,.loc 0 0),(55,.ep 6 kids.length (X0R kids) ((0:Int).toNat*6))] ?_
       refine OD.ldA rfl (by kernel_rfl) (by kernel_rfl) (XAq hx) rfl (by decide) ?_
       refine OD.rE 1 [(0,.loc 0 0),(2,.i64 next),(4,.loc 2 0),(52,.loc 0 0),(56,.agg (cN k1 set1 no1 kids1 mn1 mx1)),(57,.i64 next)] ?_
       refine OD.cO [0,1] [.loc 0 0,.agg (cN k1 set1 no1 kids1 mn1 mx1),.i64 next] (ih k1 set1 no1 kids1 mn1 mx1 L n next first sz (X2f hs hx) (X4O hf hx) (X10 hl hx) (by assumption) (by omega)) (fun r L1 hr=>?_)
       have hblm10:=X1E (.mk k1 set1 no1 kids1 mn1 mx1) (X10 hl hx) L next
       have hbgm10:=X2i (X10 hl hx) L next
       obtain⟨m10,hm10,rfl,rfl⟩:=hr
       refine OD.rE 1 [(0,.loc 0 0),(2,.i64 next),(4,.loc 2 0),(8,.i64 (((build K14 (.mk k1 set1 no1 kids1 mn1 mx1) L next).2:Nat):Int))] ?_
       refine OD.nil (CD.seq (CD.seq (CD.region ?_)))
       refine OD.rE 2 [(0,.loc 0 0),(2,.i64 next),(8,.i64 (((build K14 (.mk k1 set1 no1 kids1 mn1 mx1) L next).2:Nat):Int)),(60,.sl 6 kids.length (X0R kids))] ?_
       refine OD.slSl (lw:=1) (u:=kids.length) rfl (by kernel_rfl) (.inr ⟨_,_,rfl,rfl⟩) (.inl ⟨rfl,rfl⟩) (by omega) (Nat.le_refl _) ?_
       refine OD.is 61 rfl (XGB hks) ?_
       refine OD.rE 2 [(0,.loc 0 0),(2,.i64 next),(8,.i64 (((build K14 (.mk k1 set1 no1 kids1 mn1 mx1) L next).2:Nat):Int)),(61,.sl 6 ns.length (X0R ns)),(62,.i64 ns.length),(63,.i64 0)] ?_
       refine OD.nil (CD.block ?_)
       refine CD.weak [0,2,8,61,62,63] 3 (E':=[(0,.loc 0 0),(2,.i64 next),(8,.i64 (((build K14 (.mk k1 set1 no1 kids1 mn1 mx1) L next).2:Nat):Int)),(61,.sl 6 ns.length (X0R ns)),(62,.i64 ns.length),(63,.i64 0)]) (by kernel_rfl) (by simp [hg0]) (by kernel_rfl) ?_
       refine CD.loop (fun m σ=>∃ (i:Nat) (S:List Sta×Nat) (q:Nat),σ=⟨[(0,.loc 0 0),(2,.i64 next),(8,.i64 S.2),(61,.sl 6 ns.length (X0R ns)),(62,.i64 ns.length),(63,.i64 i)],[.box [.row 1 0 q q,.i64 first,.i64 sz],.row 9 q (S.1.flatMap X03),.box (cN k set no kids mn mx)]⟩∧(i≤ns.length)∧(X1C K14 ns next (build K14 (.mk k1 set1 no1 kids1 mn1 mx1) L next)=X1C K14 (ns.drop i) next S)∧(S.1.length=q)∧(q+10*wtL K14 (ns.drop i)≤n+10*wtL K14 kids)∧m=ns.length - i) (fun m σ hI=>?_) _ ⟨0,(build K14 (.mk k1 set1 no1 kids1 mn1 mx1) L next),_,(by kernel_rfl),Nat.zero_le _,rfl,by assumption,by rw [List.drop_zero];omega,rfl⟩
       obtain⟨i,S,q,e,hi,hS,hq,hqb,hm⟩:=hI
       subst e hm
       refine CD.seq (CD.region ?_)
       refine OD.rE 1 [(0,.loc 0 0),(2,.i64 next),(8,.i64 S.2),(61,.sl 6 ns.length (X0R ns)),(62,.i64 ns.length),(63,.i64 i),(64,.bool (decide ((((i:Nat):Int):Int)<((ns.length:Nat):Int))))] ?_
       refine OD.nil (CD.seq ?_)
       refine CD.condP rfl (fun h7=>?_) (fun h7=>?_)
       ·
        obtain⟨⟨k2,set2,no2,kids2,mn2,mx2⟩,hx2,hd⟩:=nth (l:=ns) (i:=i) (by omega)
        have hx3:kids[i+1]?=some (.mk k2 set2 no2 kids2 mn2 mx2):=by rw [hks];exact hx2
        have hw1:=XBt hx2
        refine CD.skip (CD.seq (CD.block (CD.seq (CD.region ?_))))
        refine OD.idx rfl rfl (by kernel_rfl) (by omega) (by omega) ?_
        refine OD.rE 0 [(0,.loc 0 0),(2,.i64 next),(8,.i64 S.2),(61,.sl 6 ns.length (X0R ns)),(62,.i64 ns.length),(63,.i64 i),(65,.ep 6 ns.length (X0R ns) ((((i:Nat):Int):Int).toNat*6))] ?_
        refine OD.ldA rfl (by kernel_rfl) (by kernel_rfl) (XAq hx2) rfl (by decide) ?_
        refine OD.rL 2 [(0,.loc 0 0),(2,.i64 next),(8,.i64 S.2),(10,.loc 3 0),(61,.sl 6 ns.length (X0R ns)),(62,.i64 ns.length),(63,.i64 i)] [.box [.row 1 0 q q,.i64 first,.i64 sz],.row 9 q (S.1.flatMap X03),.box (cN k set no kids mn mx),.box (cN k2 set2 no2 kids2 mn2 mx2)] ?_
        refine OD.nil (CD.region ?_)
        refine OD.rE 5 [(0,.loc 0 0),(2,.i64 next),(61,.sl 6 ns.length (X0R ns)),(62,.i64 ns.length),(63,.i64 i),(67,.loc 0 0),(68,.i64 S.2),(69,.loc 0 0),(70,.agg (cN k2 set2 no2 kids2 mn2 mx2)),(71,.i64 next)] ?_
        refine OD.cO [0,1] [.loc 0 0,.agg (cN k2 set2 no2 kids2 mn2 mx2),.i64 next] (ih k2 set2 no2 kids2 mn2 mx2 S.1 q next first sz (X2f hs hx3) (X4O hf hx3) (X10 hl hx3) (by assumption) (by omega)) (fun r L1 hr=>?_)
        have hblm11:=X1E (.mk k2 set2 no2 kids2 mn2 mx2) (X10 hl hx3) S.1 next
        have hbgm11:=X2i (X10 hl hx3) S.1 next
        obtain⟨m11,hm11,rfl,rfl⟩:=hr
        refine OD.rE 1 [(0,.loc 0 0),(2,.i64 next),(61,.sl 6 ns.length (X0R ns)),(62,.i64 ns.length),(63,.i64 i),(67,.loc 0 0),(73,.agg [.i64 2,.i64 0,.lit (.slice none 0 0),.bool false,.lit (.slice none 0 0),.i64 0,.i64 0,.i64 S.2,.i64 (((build K14 (.mk k2 set2 no2 kids2 mn2 mx2) S.1 next).2:Nat):Int)])] ?_
        refine OD.cO [0,1] [.loc 0 0,.agg [.i64 2,.i64 0,.lit (.slice none 0 0),.bool false,.lit (.slice none 0 0),.i64 0,.i64 0,.i64 S.2,.i64 (((build K14 (.mk k2 set2 no2 kids2 mn2 mx2) S.1 next).2:Nat):Int)]] (X4Q S.2 ((build K14 (.mk k2 set2 no2 kids2 mn2 mx2) S.1 next).2) ((build K14 (.mk k2 set2 no2 kids2 mn2 mx2) S.1 next).1) m11 first sz (by first | assumption | rfl) (by omega)) (fun r L1 hr=>?_)
        obtain⟨m12,hm12,rfl,rfl⟩:=hr
        have hblm12:m12=m11+1:=by rw [← hm12,List.length_append];simp only [List.length_singleton,List.length_nil]<;>omega
        refine OD.rE 1 [(0,.loc 0 0),(2,.i64 next),(8,.i64 m11),(61,.sl 6 ns.length (X0R ns)),(62,.i64 ns.length),(63,.i64 i)] ?_
        refine OD.nil (CD.region ?_)
        refine OD.rE 1 [(0,.loc 0 0),(2,.i64 next),(8,.i64 m11),(61,.sl 6 ns.length (X0R ns)),(62,.i64 ns.length),(75,.i64 (X05 .i64 (((i:Nat):Int)+1)))] ?_
        refine OD.is 75 rfl (wrn (m:=i+1) (by omega) (by omega)) ?_
        refine OD.rE 1 [(0,.loc 0 0),(2,.i64 next),(8,.i64 m11),(61,.sl 6 ns.length (X0R ns)),(62,.i64 ns.length),(63,.i64 ((i+1:Nat):Int))] ?_
        refine OD.nilW [0,2,8,61,62,63] 3 (E':=[(0,.loc 0 0),(2,.i64 next),(8,.i64 m11),(61,.sl 6 ns.length (X0R ns)),(62,.i64 ns.length),(63,.i64 ((i+1:Nat):Int))]) (by kernel_rfl) (by simp [hg0]) (by kernel_rfl) ?_
        exact⟨_,by omega,i+1,(((build K14 (.mk k2 set2 no2 kids2 mn2 mx2) S.1 next).1++[(Sta.splits S.2 ((build K14 (.mk k2 set2 no2 kids2 mn2 mx2) S.1 next).2))]),m11),_,(by kernel_rfl),by omega,by rw [hS,hd,X1C];congr 2<;>omega,by assumption,by omega,rfl⟩
       ·
        refine CD.exit ?_
        refine CD.seq (CD.region ?_)
        refine OD.rE 2 [(6,.i64 S.2)] ?_
        refine OD.nil (CD.ret ?_)
        (try dsimp only);first | refine X01 ?_ | refine X02 ?_
        exact rO 2 (.i64 S.2) [.box [.row 1 0 q q,.i64 first,.i64 sz],.row 9 q (S.1.flatMap X03)] (X2h (by rw [X1a,if_neg h1,if_neg h2,if_neg h3,if_neg h4,if_pos h6,hks,X1N,hS,List.drop_eq_nil_of_le (by omega),X1C]) hq)
      ·
       refine CD.seq (CD.region ?_)
       refine OD.rE 2 [(0,.loc 0 0),(2,.i64 next),(4,.loc 2 0),(77,.bool (decide ((k:Int)=5)))] ?_
       refine OD.nil ?_
       refine CD.condP rfl (fun h8=>?_) (fun h8=>?_)
       ·
        have hk:0≤mn∧mn≤9∧mx≤9∧(mx = -1∨mn≤mx):=by subst h8;exact X7A hl
        obtain⟨⟨k1,set1,no1,kids1,mn1,mx1⟩,hx⟩:∃ x,kids[0]?=some x:=by subst h8;exact XA4 hl
        have hk1:=(List.getElem?_eq_some_iff.1 hx).1
        have hwt:=XII hl h8 hx
        have hw3:(if mx<0 then mn+1 else mx).toNat*(10*wt K14 (.mk k1 set1 no1 kids1 mn1 mx1))=10*((if mx<0 then mn+1 else mx).toNat*wt K14 (.mk k1 set1 no1 kids1 mn1 mx1)):=by rw [Nat.mul_left_comm]
        refine CD.seq (CD.region ?_)
        refine OD.rE 3 [(79,.loc 0 0),(80,.agg (cN k set no kids mn mx)),(81,.i64 next)] ?_
        refine OD.cO [0,1] [.loc 0 0,.agg (cN k set no kids mn mx),.i64 next] (XAu k set no kids mn mx k1 set1 no1 kids1 mn1 mx1 L n next first sz hn hx (X10 hl hx) hk ⟨by omega,hf2⟩ (by omega) (fun L n next q1 q2=>ih k1 set1 no1 kids1 mn1 mx1 L n next first sz (X2f hs hx) (X4O hf hx) (X10 hl hx) q1 q2)) (fun r L1 hr=>?_)
        obtain⟨m13,hm13,rfl,rfl⟩:=hr
        refine OD.rE 1 [(6,.i64 (((X15 K14 kids mn mx L next).2:Nat):Int))] ?_
        refine OD.nil (CD.ret ?_)
        (try dsimp only);first | refine X01 ?_ | refine X02 ?_
        exact rO 2 (.i64 (((X15 K14 kids mn mx L next).2:Nat):Int)) [.box [.row 1 0 m13 m13,.i64 first,.i64 sz],.row 9 m13 (((X15 K14 kids mn mx L next).1).flatMap X03)] (X2h (by rw [X1a,if_neg h1,if_neg h2,if_neg h3,if_neg h4,if_neg h6,if_pos h8]) (by assumption))
       ·
        refine CD.skip (CD.seq (CD.region ?_))
        refine OD.rE 2 [(6,.i64 next)] ?_
        refine OD.nil (CD.ret ?_)
        (try dsimp only);first | refine X01 ?_ | refine X02 ?_
        exact rO 2 (.i64 next) [.box [.row 1 0 n n,.i64 first,.i64 sz],.row 9 n (L.flatMap X03)] (absurd (X1w hl) (by omega))
end
end Go.Proofs.YtiebldaihnbkmaaGreatDoor

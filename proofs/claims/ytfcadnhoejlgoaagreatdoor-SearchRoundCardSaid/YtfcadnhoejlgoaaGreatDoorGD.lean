/-
  What is proved here: what functions of the pattern's package come to (walks that a program of mine has printed). what functions of the pattern's package come to (walks that a program of mine has printed). what functions of the pattern's package come to (walks that a program of mine has printed). No conditions but those that the theorems state.
-/
import Derived.Test.YtfcadnhoejlgoaaGreatDoorGA
import Derived.Test.YtfcadnhoejlgoaaGreatDoorGB
import Derived.Test.YtfcadnhoejlgoaaGreatDoorRI
set_option linter.unusedVariables false
set_option linter.unusedSimpArgs false
set_option maxRecDepth 100000
set_option maxHeartbeats 4000000
namespace Go.Proofs.YtfcadnhoejlgoaaGreatDoor
open Go.Vai Go.Nfa
noncomputable section
theorem X87 (l:List Cel) (hlb:l.length≤1000000):X1K P ov 23 [.sl 3 l.length (l.flatMap X2k)] (.sl 1 (X4a l).length ((X4a l).map (D.int .i32))):=by
 refine FnD.intro (by kernel_rfl) (fn:=Tryz.f23) (by kernel_rfl) rfl (by kernel_rfl) fun M a0 g0 hg0=>?_
 refine CD.seq (CD.region ?_)
 refine OD.rE 1 [(0,.sl 3 l.length (l.flatMap X2k))] ?_
 refine OD.nil (CD.seq (CD.region ?_))
 refine OD.rE 1 [(0,.sl 3 l.length (l.flatMap X2k)),(3,.lit (.slice none 0 0))] ?_
 refine OD.nilRow 3 1 rfl ?_
 refine OD.rE 0 [(0,.sl 3 l.length (l.flatMap X2k)),(3,.row 0 0 0 0)] ?_
 refine OD.nil (CD.seq (CD.seq (CD.region ?_)))
 refine OD.rE 3 [(3,.row 0 0 0 0),(6,.sl 3 l.length (l.flatMap X2k)),(7,.i64 l.length),(8,.i64 0)] ?_
 refine OD.nil (CD.block ?_)
 refine CD.weak [3,6,7,8] 1 (E':=[(3,.row 0 0 0 0),(6,.sl 3 l.length (l.flatMap X2k)),(7,.i64 l.length),(8,.i64 0)]) (by kernel_rfl) (by simp [hg0]) (by kernel_rfl) ?_
 refine CD.loop (fun m σ=>∃ (i:Nat) (out:List Int) (n:Nat),σ=⟨[(3,.row 0 0 n n),(6,.sl 3 l.length (l.flatMap X2k)),(7,.i64 l.length),(8,.i64 i)],[.row 1 n (out.map (D.int .i32))]⟩∧(i≤l.length)∧(out=(l.take i).map Prod.fst)∧(out.length=n)∧(n≤i)∧m=l.length - i) (fun m σ hI=>?_) _ ⟨0,([]:List Int),0,(by kernel_rfl),Nat.zero_le _,rfl,rfl,Nat.le_refl _,rfl⟩
 obtain⟨i,out,n,e,hi,hout,hn,hni,hm⟩:=hI
 subst e hm
 refine CD.seq (CD.region ?_)
 refine OD.rE 1 [(3,.row 0 0 n n),(6,.sl 3 l.length (l.flatMap X2k)),(7,.i64 l.length),(8,.i64 i),(9,.bool (decide ((((i:Nat):Int):Int)<((l.length:Nat):Int))))] ?_
 refine OD.nil (CD.seq ?_)
 refine CD.condP rfl (fun h1=>?_) (fun h1=>?_)
 ·
  obtain⟨x,hx,hdx⟩:=nth (l:=l) (i:=i) (by omega)
  refine CD.skip (CD.seq (CD.block (CD.seq (CD.region ?_))))
  refine OD.idxSE (i:=i) (e:=3) rfl rfl (by kernel_rfl) (by omega) (by omega) ?_
  refine OD.rE 0 [(3,.row 0 0 n n),(6,.sl 3 l.length (l.flatMap X2k)),(7,.i64 l.length),(8,.i64 i),(10,.ep 3 l.length (l.flatMap X2k) (i*3))] ?_
  refine OD.ldA rfl (by kernel_rfl) (by kernel_rfl) (X5l hx) rfl (by decide) ?_
  refine OD.rL 2 [(3,.row 0 0 n n),(5,.loc 1 0),(6,.sl 3 l.length (l.flatMap X2k)),(7,.i64 l.length),(8,.i64 i)] [.row 1 n (out.map (D.int .i32)),.box [.int .i32 x.1,.i64 x.2.1,.i64 x.2.2]] ?_
  refine OD.nil (CD.region ?_)
  refine OD.rE 3 [(6,.sl 3 l.length (l.flatMap X2k)),(7,.i64 l.length),(8,.i64 i),(12,.row 0 0 n n),(14,.int .i32 x.1)] ?_
  refine OD.bsl (e:=1) (cs:=[.int .i32 x.1]) rfl (by kernel_rfl) ?_
  refine OD.rE 0 [(6,.sl 3 l.length (l.flatMap X2k)),(7,.i64 l.length),(8,.i64 i),(12,.row 0 0 n n),(15,.sl 1 1 [.int .i32 x.1])] ?_
  refine OD.appV (f:=(D.int .i32)) (xs:=out) (vs:=[x.1]) rfl (by kernel_rfl) rfl rfl rfl rfl (by first | omega | (simp<;>omega)) (by decide) (by omega) ?_
  refine OD.rE 1 [(3,.row 0 0 (n+1) (n+1)),(6,.sl 3 l.length (l.flatMap X2k)),(7,.i64 l.length),(8,.i64 i)] ?_
  refine OD.nil (CD.region ?_)
  refine OD.rE 1 [(3,.row 0 0 (n+1) (n+1)),(6,.sl 3 l.length (l.flatMap X2k)),(7,.i64 l.length),(17,.i64 (X09 .i64 (((i:Nat):Int)+1)))] ?_
  refine OD.is 17 rfl (wrn (m:=i+1) (by omega) (by omega)) ?_
  refine OD.rE 1 [(3,.row 0 0 (n+1) (n+1)),(6,.sl 3 l.length (l.flatMap X2k)),(7,.i64 l.length),(8,.i64 ((i+1:Nat):Int))] ?_
  refine OD.nilW [3,6,7,8] 1 (E':=[(3,.row 0 0 (n+1) (n+1)),(6,.sl 3 l.length (l.flatMap X2k)),(7,.i64 l.length),(8,.i64 ((i+1:Nat):Int))]) (by kernel_rfl) (by simp [hg0]) (by kernel_rfl) ?_
  exact⟨_,by omega,i+1,(out++[x.1]),n+1,(by kernel_rfl),by omega,by rw [hout,XFq hx],by rw [List.length_append,hn];rfl,by omega,rfl⟩
 ·
  refine CD.exit ?_
  refine CD.seq (CD.region ?_)
  refine OD.rE 2 [(2,.row 0 0 n n)] ?_
  refine OD.nil ?_
  refine CD.freeze 2 rfl rfl (Nat.le_refl _) ?_
  refine CD.ret ?_
  exact rP (.sl 1 n (out.map (D.int .i32))) (XIm hout hn (by omega))
theorem X90 (ls:List (List Cel)) (s:Int×Int) (pa:Int):X1K P ov 40 [.sl 1 ls.length (ls.map X46),.agg [.i64 s.1,.i64 s.2,.i64 pa]] (.bool (inB ls s)):=by
 refine FnD.intro (by kernel_rfl) (fn:=Tryz.f40) (by kernel_rfl) rfl (by kernel_rfl) fun M a0 g0 hg0=>?_
 refine CD.seq (CD.region ?_)
 refine OD.rL 2 [(0,.vR ls),(3,.loc 0 0)] [.box [.i64 s.1,.i64 s.2,.i64 pa]] ?_
 refine OD.nil (CD.seq ?_)
 refine CD.drawn (by kernel_rfl) ?_
 refine OD.rE 4 [(0,.vR ls),(3,.loc 0 0),(8,.bool (decide ((0:Int)≤s.1)))] ?_
 refine OD.ifP 8 rfl (fun h1=>?_) (fun h1=>?_)
 ·
  refine OD.rE 7 [(0,.vR ls),(3,.loc 0 0),(15,.bool (decide ((s.1:Int)<((ls.length:Nat):Int))))] ?_
  refine OD.ifP 15 rfl (fun h2=>?_) (fun h2=>?_)
  ·
   refine OD.rE 5 [(0,.vR ls),(3,.loc 0 0),(20,.bool (decide ((0:Int)≤s.2)))] ?_
   refine OD.ifP 20 rfl (fun h3=>?_) (fun h3=>?_)
   ·
    refine OD.rE 5 [(20,.bool true),(22,.i64 s.2),(23,.vR ls),(25,.i64 s.1)] ?_
    refine OD.guard rfl rfl ?_
    refine OD.idxSV (i:=s.1.toNat) rfl rfl (by kernel_rfl) (by omega) (by omega) ?_
    refine OD.rE 0 [(20,.bool true),(22,.i64 s.2),(26,.ep 1 ls.length (ls.map X46) s.1.toNat)] ?_
    refine OD.guard rfl rfl ?_
    refine OD.ldSV [] (f:=X46) (xs:=ls) rfl (by kernel_rfl) (by first | omega | (simp<;>omega)) ?_
    refine OD.rE 4 [(4,.bool (decide ((s.2:Int)≤(((ls.getD s.1.toNat []).length:Nat):Int))))] ?_
    refine OD.nil ⟨by kernel_rfl,?_⟩
    refine CD.ret ?_
    exact rP (.bool (decide ((s.2:Int)≤(((ls.getD s.1.toNat []).length:Nat):Int)))) (congrArg D.bool (inB_d (by omega)))
   ·
    refine OD.rE 11 [(4,.bool false)] ?_
    refine OD.nil ⟨by kernel_rfl,?_⟩
    refine CD.ret ?_
    exact rP (.bool false) (congrArg D.bool (XIl (by omega)))
  ·
   refine OD.rE 16 [(4,.bool false)] ?_
   refine OD.nil ⟨by kernel_rfl,?_⟩
   refine CD.ret ?_
   exact rP (.bool false) (congrArg D.bool (XIl (by omega)))
 ·
  refine OD.rE 23 [(4,.bool false)] ?_
  refine OD.nil ⟨by kernel_rfl,?_⟩
  refine CD.ret ?_
  exact rP (.bool false) (congrArg D.bool (XIl (by omega)))
end
end Go.Proofs.YtfcadnhoejlgoaaGreatDoor
set_option maxRecDepth 100000
set_option maxHeartbeats 4000000
namespace Go.Proofs.YtfcadnhoejlgoaaGreatDoor
open Go.Vai Go.Nfa
noncomputable section
theorem XIw (k:Int) (set:List (Int×Int)) (no:Bool) (kids:List Nd) (mn mx:Int) (t:List (List Int)) (hf:fit (.mk k set no kids mn mx)) (hal:X0H X16 (.mk k set no kids mn mx)) (hc10:t.length≤10) (hall:∀ x∈t,x.length≤40):X1K P ov 24 [.sl 1 t.length (t.map X38),.agg [.i64 k,.sl 2 set.length (set.flatMap X0K),.bool no,.sl 6 kids.length (X0G kids),.i64 mn,.i64 mx]] (.sl 3 (X4V t (.mk k set no kids mn mx)).length ((X4V t (.mk k set no kids mn mx)).flatMap X2E)):=by
 refine FnD.intro (by kernel_rfl) (fn:=Tryz.f24) (by kernel_rfl) rfl (by kernel_rfl) fun M a0 g0 hg0=>?_
 refine CD.seq (CD.region ?_)
 refine OD.rL 2 [(0,.sl 1 t.length (t.map X38)),(3,.loc 0 0)] [.box (cN k set no kids mn mx)] ?_
 refine OD.nil (CD.seq (CD.region ?_))
 refine OD.rE 1 [(0,.sl 1 t.length (t.map X38)),(3,.loc 0 0),(5,.lit (.slice none 0 0))] ?_
 refine OD.nilRow 5 3 rfl ?_
 refine OD.rE 0 [(0,.sl 1 t.length (t.map X38)),(3,.loc 0 0),(5,.row 1 0 0 0)] ?_
 refine OD.nil (CD.seq (CD.seq (CD.region ?_)))
 refine OD.rE 1 [(0,.sl 1 t.length (t.map X38)),(3,.loc 0 0),(5,.row 1 0 0 0),(6,.i64 0)] ?_
 refine OD.nil (CD.block ?_)
 refine CD.weak [0,3,5,6] 2 (E':=[(0,.sl 1 t.length (t.map X38)),(3,.loc 0 0),(5,.row 1 0 0 0),(6,.i64 0)]) (by kernel_rfl) (by simp [hg0]) (by kernel_rfl) ?_
 refine CD.loop (fun m σ=>∃ (i:Nat) (out:List H3) (n:Nat),σ=⟨[(0,.sl 1 t.length (t.map X38)),(3,.loc 0 0),(5,.row 1 0 n n),(6,.i64 i)],[.box (cN k set no kids mn mx),.row 3 n (out.flatMap X2E)]⟩∧(i≤t.length)∧(out=X1A t (.mk k set no kids mn mx) 0 i)∧(out.length=n)∧(n≤40*i)∧m=t.length - i) (fun m σ hI=>?_) _ ⟨0,([]:List H3),0,(by kernel_rfl),Nat.zero_le _,rfl,rfl,Nat.le_refl _,rfl⟩
 obtain⟨i,out,n,e,hi,hout,hn,hnb,hm⟩:=hI
 subst e hm
 refine CD.seq (CD.seq (CD.region ?_))
 refine OD.rE 4 [(0,.sl 1 t.length (t.map X38)),(3,.loc 0 0),(5,.row 1 0 n n),(6,.i64 i),(12,.bool (decide ((((i:Nat):Int):Int)<((t.length:Nat):Int))))] ?_
 refine OD.nil ?_
 refine CD.condP rfl (fun h1=>?_) (fun h1=>?_)
 ·
  refine CD.skip (CD.seq (CD.block (CD.seq (CD.region ?_))))
  refine OD.rE 1 [(0,.sl 1 t.length (t.map X38)),(3,.loc 0 0),(5,.row 1 0 n n),(6,.i64 i),(7,.i64 0)] ?_
  refine OD.nil (CD.block ?_)
  refine CD.weak [0,3,5,6,7] 2 (E':=[(0,.sl 1 t.length (t.map X38)),(3,.loc 0 0),(5,.row 1 0 n n),(6,.i64 i),(7,.i64 0)]) (by kernel_rfl) (by simp [hg0]) (by kernel_rfl) ?_
  refine CD.loop (fun m σ=>∃ (a:Nat) (out2:List H3) (n2:Nat),σ=⟨[(0,.sl 1 t.length (t.map X38)),(3,.loc 0 0),(5,.row 1 0 n2 n2),(6,.i64 i),(7,.i64 a)],[.box (cN k set no kids mn mx),.row 3 n2 (out2.flatMap X2E)]⟩∧(a≤(t.getD i []).length)∧(out2=X1A t (.mk k set no kids mn mx) 0 i++X4u t (.mk k set no kids mn mx) i 0 a)∧(out2.length=n2)∧(n2≤40*i+a)∧m=(t.getD i []).length - a) (fun m σ hI=>?_) _ ⟨0,out,n,(by kernel_rfl),Nat.zero_le _,by rw [hout];simp [X4u],hn,by omega,rfl⟩
  obtain⟨a,out2,n2,e,ha,hout2,hn2,hnb2,hm⟩:=hI
  subst e hm
  have hrow:=X2l hall i
  refine CD.seq (CD.seq (CD.region ?_))
  refine OD.rE 3 [(0,.sl 1 t.length (t.map X38)),(3,.loc 0 0),(5,.row 1 0 n2 n2),(6,.i64 i),(7,.i64 a),(15,.i64 a),(16,.sl 1 t.length (t.map X38)),(17,.i64 i)] ?_
  refine OD.idxSV (i:=i) rfl rfl (by kernel_rfl) (by omega) (by omega) ?_
  refine OD.rE 0 [(0,.sl 1 t.length (t.map X38)),(3,.loc 0 0),(5,.row 1 0 n2 n2),(6,.i64 i),(7,.i64 a),(15,.i64 a),(18,.ep 1 t.length (t.map X38) i)] ?_
  refine OD.ldSV [] (f:=X38) (xs:=t) rfl (by kernel_rfl) (by first | omega | (simp<;>omega)) ?_
  refine OD.rE 2 [(0,.sl 1 t.length (t.map X38)),(3,.loc 0 0),(5,.row 1 0 n2 n2),(6,.i64 i),(7,.i64 a),(21,.bool (decide ((((a:Nat):Int):Int)<(((t.getD i []).length:Nat):Int))))] ?_
  refine OD.nil ?_
  refine CD.condP rfl (fun h2=>?_) (fun h2=>?_)
  ·
   refine CD.skip (CD.seq (CD.block (CD.seq ?_)))
   refine CD.drawn (by kernel_rfl) ?_
   refine OD.rE 3 [(0,.sl 1 t.length (t.map X38)),(3,.loc 0 0),(5,.row 1 0 n2 n2),(6,.i64 i),(7,.i64 a),(24,.agg (cN k set no kids mn mx)),(25,.sl 1 t.length (t.map X38)),(26,.i64 i)] ?_
   refine OD.idxSV (i:=i) rfl rfl (by kernel_rfl) (by omega) (by omega) ?_
   refine OD.rE 0 [(0,.sl 1 t.length (t.map X38)),(3,.loc 0 0),(5,.row 1 0 n2 n2),(6,.i64 i),(7,.i64 a),(24,.agg (cN k set no kids mn mx)),(27,.ep 1 t.length (t.map X38) i)] ?_
   refine OD.ldSV [] (f:=X38) (xs:=t) rfl (by kernel_rfl) (by first | omega | (simp<;>omega)) ?_
   refine OD.rE 1 [(0,.sl 1 t.length (t.map X38)),(3,.loc 0 0),(5,.row 1 0 n2 n2),(6,.i64 i),(7,.i64 a),(24,.agg (cN k set no kids mn mx)),(28,.sl 1 ((t.getD i []).length) ((t.getD i []).map (D.int .i32))),(29,.i64 a)] ?_
   have hlb:=X2l hall i
   refine OD.cE (XL5 k set no kids mn mx (t.getD i []) ((a:Nat):Int) hf hal (by omega)) ?_
   refine OD.rE 1 [(0,.sl 1 t.length (t.map X38)),(3,.loc 0 0),(5,.row 1 0 n2 n2),(6,.i64 i),(7,.i64 a),(8,.i64 (atR (t.getD i []) (.mk k set no kids mn mx) ((a:Nat):Int)))] ?_
   refine OD.nil ⟨by kernel_rfl,?_⟩
   refine CD.seq (CD.region ?_)
   refine OD.rE 2 [(0,.sl 1 t.length (t.map X38)),(3,.loc 0 0),(5,.row 1 0 n2 n2),(6,.i64 i),(7,.i64 a),(8,.i64 (atR (t.getD i []) (.mk k set no kids mn mx) ((a:Nat):Int))),(32,.bool (decide ((0:Int)<(atR (t.getD i []) (.mk k set no kids mn mx) ((a:Nat):Int)))))] ?_
   refine OD.nil ?_
   refine CD.condP rfl (fun h3=>?_) (fun h3=>?_)
   ·
    refine CD.region ?_
    refine OD.rE 5 [(0,.sl 1 t.length (t.map X38)),(3,.loc 0 0),(6,.i64 i),(7,.i64 a),(33,.row 1 0 n2 n2),(37,.agg [.i64 i,.i64 a,.i64 (atR (t.getD i []) (.mk k set no kids mn mx) ((a:Nat):Int))])] ?_
    refine OD.bsl (e:=3) (cs:=[.i64 i,.i64 a,.i64 (atR (t.getD i []) (.mk k set no kids mn mx) ((a:Nat):Int))]) rfl (by kernel_rfl) ?_
    refine OD.rE 0 [(0,.sl 1 t.length (t.map X38)),(3,.loc 0 0),(6,.i64 i),(7,.i64 a),(33,.row 1 0 n2 n2),(38,.sl 3 1 [.i64 i,.i64 a,.i64 (atR (t.getD i []) (.mk k set no kids mn mx) ((a:Nat):Int))])] ?_
    refine OD.appE (enc:=X2E) (xs:=out2) (vs:=[(((i:Nat):Int),((a:Nat):Int),atR (t.getD i []) (.mk k set no kids mn mx) ((a:Nat):Int))]) rfl (by kernel_rfl) rfl rfl rfl (by rfl) XBC (by first | omega | (simp<;>omega)) (by decide) (by omega) (by omega) ?_
    refine OD.rE 1 [(0,.sl 1 t.length (t.map X38)),(3,.loc 0 0),(5,.row 1 0 (n2+1) (n2+1)),(6,.i64 i),(7,.i64 a)] ?_
    refine OD.nil (CD.region ?_)
    refine OD.rE 2 [(0,.sl 1 t.length (t.map X38)),(3,.loc 0 0),(5,.row 1 0 (n2+1) (n2+1)),(6,.i64 i),(23,.i64 (X09 .i64 (((a:Nat):Int)+1)))] ?_
    refine OD.is 23 rfl (wrn (m:=a+1) (by omega) (by omega)) ?_
    refine OD.rE 1 [(0,.sl 1 t.length (t.map X38)),(3,.loc 0 0),(5,.row 1 0 (n2+1) (n2+1)),(6,.i64 i),(7,.i64 ((a+1:Nat):Int))] ?_
    refine OD.nil ?_
    exact⟨_,by omega,a+1,(out2++[(((i:Nat):Int),((a:Nat):Int),atR (t.getD i []) (.mk k set no kids mn mx) ((a:Nat):Int))]),n2+1,(by kernel_rfl),by omega,by rw [hout2,XFz h3,List.append_assoc],by rw [List.length_append,hn2];rfl,by omega,rfl⟩
   ·
    refine CD.skip (CD.region ?_)
    refine OD.rE 2 [(0,.sl 1 t.length (t.map X38)),(3,.loc 0 0),(5,.row 1 0 n2 n2),(6,.i64 i),(23,.i64 (X09 .i64 (((a:Nat):Int)+1)))] ?_
    refine OD.is 23 rfl (wrn (m:=a+1) (by omega) (by omega)) ?_
    refine OD.rE 1 [(0,.sl 1 t.length (t.map X38)),(3,.loc 0 0),(5,.row 1 0 n2 n2),(6,.i64 i),(7,.i64 ((a+1:Nat):Int))] ?_
    refine OD.nil ?_
    exact⟨_,by omega,a+1,out2,n2,(by kernel_rfl),by omega,by rw [hout2,XDF h3],hn2,by omega,rfl⟩
  ·
   refine CD.exit ?_
   refine CD.region ?_
   refine OD.rE 2 [(0,.sl 1 t.length (t.map X38)),(3,.loc 0 0),(5,.row 1 0 n2 n2),(14,.i64 (X09 .i64 (((i:Nat):Int)+1)))] ?_
   refine OD.is 14 rfl (wrn (m:=i+1) (by omega) (by omega)) ?_
   refine OD.rE 1 [(0,.sl 1 t.length (t.map X38)),(3,.loc 0 0),(5,.row 1 0 n2 n2),(6,.i64 ((i+1:Nat):Int))] ?_
   refine OD.nil ?_
   exact⟨_,by omega,i+1,out2,n2,(by kernel_rfl),by omega,by rw [hout2,X4v (a:=a) (by omega)],hn2,by have:=X2l hall i;omega,rfl⟩
 ·
  refine CD.exit ?_
  refine CD.seq (CD.region ?_)
  refine OD.rE 2 [(4,.row 1 0 n n)] ?_
  refine OD.nil ?_
  refine CD.freeze 4 rfl rfl (Nat.le_refl _) ?_
  refine CD.ret ?_
  exact rP (.sl 3 n (out.flatMap X2E)) (XG0 hout hn (by omega))
theorem XDJ (k:Int) (set:List (Int×Int)) (no:Bool) (kids:List Nd) (mn mx:Int) (n1:Nat) (ls:List (List Cel)) (s:Int×Int) (pa:Int) (hf:fit (.mk k set no kids mn mx)) (hal:X0H X16 (.mk k set no kids mn mx)) (hn1:(X0F K14 (.mk k set no kids mn mx)).1.length=n1) (hsb:n1≤1000000) (hc10:ls.length≤10) (hall:∀ x∈ls,x.length≤40):FnD P ov 20 [.sl 1 ls.length (ls.map X46),.loc 0 0,.agg [.i64 s.1,.i64 s.2,.i64 pa]] [.box [.sl 9 n1 (((X0F K14 (.mk k set no kids mn mx)).1).flatMap X03),.i64 (((X0F K14 (.mk k set no kids mn mx)).2:Nat):Int),.i64 ((wp K14 20001 (.mk k set no kids mn mx):Nat):Int)]] (fun r L1=>r=XG2 (XG4 ls (.mk k set no kids mn mx) s)∧L1=[.box [.sl 9 n1 (((X0F K14 (.mk k set no kids mn mx)).1).flatMap X03),.i64 (((X0F K14 (.mk k set no kids mn mx)).2:Nat):Int),.i64 ((wp K14 20001 (.mk k set no kids mn mx):Nat):Int)]]):=by
 refine FnD.intro (by kernel_rfl) (fn:=Tryz.f20) (by kernel_rfl) rfl (by kernel_rfl) fun M a0 g0 hg0=>?_
 refine CD.seq (CD.region ?_)
 refine OD.rL 3 [(0,.vR ls),(1,.loc 0 0),(5,.loc 1 0),(6,.loc 2 0)] [.pN (.mk k set no kids mn mx) n1,.box [.i64 s.1,.i64 s.2,.i64 pa],.box [.i64 0,.i64 0,.i64 0]] ?_
 refine OD.nil (CD.seq (CD.seq (CD.region ?_)))
 refine OD.rE 3 [(0,.vR ls),(1,.loc 0 0),(5,.loc 1 0),(6,.loc 2 0),(16,.bool (decide ((((ls.length:Nat):Int):Int)=0)))] ?_
 refine OD.nil ?_
 refine CD.condP rfl (fun h1=>?_) (fun h1=>?_)
 ·
  refine CD.seq (CD.region ?_)
  refine OD.rE 3 [(6,.loc 2 0),(7,.bool false)] ?_
  refine OD.nil (CD.ret ?_)
  (try dsimp only);first | refine X01 ?_ | refine X02 ?_
  exact rO 1 (.tup [.agg [.i64 0,.i64 0,.i64 0],.bool false]) [.pN (.mk k set no kids mn mx) n1] (⟨(by rw [XG4,if_pos (by omega)];rfl:XG2 (XG4 ls (.mk k set no kids mn mx) s)=.tup [.agg [.i64 0,.i64 0,.i64 0],.bool false]).symm,rfl⟩)
 ·
  refine CD.skip ?_
  refine CD.seqM (fun σ=>∃ (z:Int) (f:Int) (pp:Int),σ=⟨[(0,.vR ls),(1,.loc 0 0),(5,.loc 1 0),(6,.loc 2 0)],[.pN (.mk k set no kids mn mx) n1,.box [.i64 z,.i64 f,.i64 pp],.box [.i64 0,.i64 0,.i64 0]]⟩∧(0≤z)∧(z<(ls.length:Int))∧(-1≤f∧f≤40)∧(z=(((if inB ls s then s.1.toNat else 0):Nat):Int)∧f=(if inB ls s then s.2 else -1))) ?_ (fun σ hI=>?_)
  ·
   refine CD.seq (CD.region ?_)
   refine OD.rE 2 [(0,.vR ls),(1,.loc 0 0),(5,.loc 1 0),(6,.loc 2 0),(18,.vR ls),(19,.agg [.i64 s.1,.i64 s.2,.i64 pa])] ?_
   refine OD.cE (X90 ls s pa) ?_
   refine OD.rE 1 [(0,.vR ls),(1,.loc 0 0),(5,.loc 1 0),(6,.loc 2 0),(21,.bool (!(inB ls s)))] ?_
   refine OD.nil ?_
   refine CD.condB rfl (fun h2=>?_) (fun h2=>?_)
   ·
    have h2:=XBt h2
    refine CD.region ?_
    refine OD.rL 2 [(0,.vR ls),(1,.loc 0 0),(5,.loc 1 0),(6,.loc 2 0)] [.pN (.mk k set no kids mn mx) n1,.box [.i64 0,.i64 (-1),.i64 0],.box [.i64 0,.i64 0,.i64 0]] ?_
    refine OD.nil ?_
    have hin:inB ls s=false:=by simpa using h2
    exact⟨0,(-1),0,(by kernel_rfl),by omega,by omega,⟨by omega,by omega⟩,by rw [hin];rw [if_neg (by simp),if_neg (by simp)];exact⟨rfl,rfl⟩⟩
   ·
    have h2:=XBu h2
    refine CD.weak [0,1,5,6] 3 (E':=[(0,.vR ls),(1,.loc 0 0),(5,.loc 1 0),(6,.loc 2 0)]) (by kernel_rfl) (by simp [hg0]) (by kernel_rfl) ?_
    refine CD.skip ?_
    have hin:inB ls s=true:=by simpa using h2
    have hb:=XG3 hin
    have hbn:=X2l hall s.1.toNat
    exact⟨s.1,s.2,pa,(by kernel_rfl),by omega,by omega,by omega,by rw [hin,if_pos rfl,if_pos rfl];omega⟩
  ·
   obtain⟨z,f,pp,e,hz0,hz1,hfb,hzf⟩:=hI
   subst e
   refine CD.seq (CD.seq (CD.region ?_))
   obtain⟨sl,hsl⟩:∃ sl:Nat,z=(sl:Int):=⟨z.toNat,by omega⟩
   subst hsl
   obtain⟨hzs,hzo⟩:=hzf
   have hzs:=Int.ofNat.inj hzs
   refine OD.rL 3 [(0,.vR ls),(1,.loc 0 0),(5,.loc 1 0),(6,.loc 2 0),(25,.i64 (X09 .i64 (((ls.length:Nat):Int)+1)))] [.pN (.mk k set no kids mn mx) n1,.box [.i64 sl,.i64 f,.i64 pp],.box [.i64 0,.i64 0,.i64 0]] ?_
   refine OD.is 25 rfl (wrn (m:=ls.length+1) (by omega) (by omega)) ?_
   refine OD.rE 1 [(0,.vR ls),(1,.loc 0 0),(5,.loc 1 0),(6,.loc 2 0),(25,.i64 ((ls.length+1:Nat):Int)),(26,.i64 0)] ?_
   refine OD.nil (CD.block ?_)
   refine CD.weak [0,1,5,6,25,26] 3 (E':=[(0,.vR ls),(1,.loc 0 0),(5,.loc 1 0),(6,.loc 2 0),(25,.i64 ((ls.length+1:Nat):Int)),(26,.i64 0)]) (by kernel_rfl) (by simp [hg0]) (by kernel_rfl) ?_
   refine CD.loop (fun m σ=>∃ (kk:Nat),σ=⟨[(0,.vR ls),(1,.loc 0 0),(5,.loc 1 0),(6,.loc 2 0),(25,.i64 ((ls.length+1:Nat):Int)),(26,.i64 kk)],[.pN (.mk k set no kids mn mx) n1,.box [.i64 sl,.i64 f,.i64 pp],.box [.i64 0,.i64 0,.i64 0]]⟩∧(kk≤ls.length+1)∧((XAK (tOf ls) (.mk k set no kids mn mx) sl f 0).head?=(XAK (tOf ls) (.mk k set no kids mn mx) sl f kk).head?)∧m=ls.length+1 - kk) (fun m σ hI=>?_) _ ⟨0,(by kernel_rfl),Nat.zero_le _,rfl,rfl⟩
   obtain⟨kk,e,hk,hr,hm⟩:=hI
   subst e hm
   refine CD.seq (CD.region ?_)
   refine OD.rE 1 [(0,.vR ls),(1,.loc 0 0),(5,.loc 1 0),(6,.loc 2 0),(25,.i64 ((ls.length+1:Nat):Int)),(26,.i64 kk),(27,.bool (decide ((((kk:Nat):Int):Int)<((ls.length+1:Nat):Int))))] ?_
   refine OD.nil (CD.seq ?_)
   refine CD.condP rfl (fun h3=>?_) (fun h3=>?_)
   ·
    refine CD.skip (CD.seq (CD.block (CD.seq (CD.region ?_))))
    refine OD.rE 2 [(0,.vR ls),(1,.loc 0 0),(5,.loc 1 0),(6,.loc 2 0),(8,.i64 kk),(25,.i64 ((ls.length+1:Nat):Int)),(26,.i64 kk)] ?_
    refine OD.nil (CD.seq (CD.region ?_))
    refine OD.rE 4 [(0,.vR ls),(1,.loc 0 0),(5,.loc 1 0),(6,.loc 2 0),(8,.i64 kk),(25,.i64 ((ls.length+1:Nat):Int)),(26,.i64 kk),(32,.i64 (X09 .i64 (((sl:Nat):Int)+((kk:Nat):Int))))] ?_
    refine OD.is 32 rfl (wrn (m:=sl+kk) (by omega) (by omega)) ?_
    refine OD.rE 2 [(0,.vR ls),(1,.loc 0 0),(5,.loc 1 0),(6,.loc 2 0),(8,.i64 kk),(25,.i64 ((ls.length+1:Nat):Int)),(26,.i64 kk),(32,.i64 ((sl+kk:Nat):Int)),(34,.i64 ls.length)] ?_
    obtain⟨n,hn⟩:∃ n,n=(sl+kk) % ls.length:=⟨_,rfl⟩
    have hnl:n<ls.length:=by rw [hn];exact Nat.mod_lt _ (by omega)
    refine OD.bit rfl rfl (XGm (m:=sl+kk) (n:=ls.length) (by omega)) ?_
    refine OD.is 35 rfl (congrArg (D.int .i64) (congrArg Nat.cast hn.symm)) ?_
    refine OD.rE 1 [(0,.vR ls),(1,.loc 0 0),(5,.loc 1 0),(6,.loc 2 0),(8,.i64 kk),(9,.i64 n),(25,.i64 ((ls.length+1:Nat):Int)),(26,.i64 kk)] ?_
    refine OD.nil (CD.seq (CD.region ?_))
    refine OD.rE 1 [(0,.vR ls),(1,.loc 0 0),(5,.loc 1 0),(6,.loc 2 0),(8,.i64 kk),(9,.i64 n),(10,.i64 0),(25,.i64 ((ls.length+1:Nat):Int)),(26,.i64 kk)] ?_
    refine OD.nil ?_
    refine CD.seqM (fun σ=>∃ (w:Int),σ=⟨[(0,.vR ls),(1,.loc 0 0),(5,.loc 1 0),(6,.loc 2 0),(9,.i64 n),(10,.i64 w),(25,.i64 ((ls.length+1:Nat):Int)),(26,.i64 kk)],[.pN (.mk k set no kids mn mx) n1,.box [.i64 sl,.i64 f,.i64 pp],.box [.i64 0,.i64 0,.i64 0]]⟩∧(w=X47 f kk)) ?_ (fun σ hI=>?_)
    ·
     refine CD.seq (CD.region ?_)
     refine OD.rE 2 [(0,.vR ls),(1,.loc 0 0),(5,.loc 1 0),(6,.loc 2 0),(9,.i64 n),(10,.i64 0),(25,.i64 ((ls.length+1:Nat):Int)),(26,.i64 kk),(37,.bool (decide ((((kk:Nat):Int):Int)=0)))] ?_
     refine OD.nil ?_
     refine CD.condP rfl (fun h4=>?_) (fun h4=>?_)
     ·
      refine CD.region ?_
      refine OD.rE 3 [(0,.vR ls),(1,.loc 0 0),(5,.loc 1 0),(6,.loc 2 0),(9,.i64 n),(25,.i64 ((ls.length+1:Nat):Int)),(26,.i64 kk),(40,.i64 (X09 .i64 (f+1)))] ?_
      refine OD.is 40 rfl (X5e (by omega) (by omega)) ?_
      refine OD.rE 1 [(0,.vR ls),(1,.loc 0 0),(5,.loc 1 0),(6,.loc 2 0),(9,.i64 n),(10,.i64 (f+1)),(25,.i64 ((ls.length+1:Nat):Int)),(26,.i64 kk)] ?_
      refine OD.nil ?_
      exact⟨_,rfl,by unfold X47;rw [if_pos (by omega)]⟩
     ·
      refine CD.weak [0,1,5,6,9,10,25,26] 3 (E':=[(0,.vR ls),(1,.loc 0 0),(5,.loc 1 0),(6,.loc 2 0),(9,.i64 n),(10,.i64 0),(25,.i64 ((ls.length+1:Nat):Int)),(26,.i64 kk)]) (by kernel_rfl) (by simp [hg0]) (by kernel_rfl) ?_
      refine CD.skip ?_
      exact⟨_,rfl,by unfold X47;rw [if_neg (by omega)]⟩
    ·
     obtain⟨w,e,ha⟩:=hI
     subst e
     refine CD.seq (CD.region ?_)
     refine OD.rE 3 [(0,.vR ls),(1,.loc 0 0),(5,.loc 1 0),(6,.loc 2 0),(9,.i64 n),(10,.i64 w),(25,.i64 ((ls.length+1:Nat):Int)),(26,.i64 kk),(42,.loc 0 0),(43,.vR ls),(44,.i64 n)] ?_
     refine OD.idxSV (i:=n) rfl rfl (by kernel_rfl) (by omega) (by omega) ?_
     refine OD.rE 0 [(0,.vR ls),(1,.loc 0 0),(5,.loc 1 0),(6,.loc 2 0),(9,.i64 n),(10,.i64 w),(25,.i64 ((ls.length+1:Nat):Int)),(26,.i64 kk),(42,.loc 0 0),(45,.ep 1 ls.length (ls.map X46) n)] ?_
     refine OD.ldSV [] (f:=X46) (xs:=ls) rfl (by kernel_rfl) (by first | omega | (simp<;>omega)) ?_
     refine OD.rE 0 [(0,.vR ls),(1,.loc 0 0),(5,.loc 1 0),(6,.loc 2 0),(9,.i64 n),(10,.i64 w),(25,.i64 ((ls.length+1:Nat):Int)),(26,.i64 kk),(42,.loc 0 0),(46,.sl 3 ((ls.getD n []).length) ((ls.getD n []).flatMap X2k))] ?_
     have hlb0:=X2l hall n
     refine OD.cE (X87 (ls.getD n []) (by omega)) ?_
     refine OD.rE 1 [(0,.vR ls),(1,.loc 0 0),(5,.loc 1 0),(6,.loc 2 0),(9,.i64 n),(25,.i64 ((ls.length+1:Nat):Int)),(26,.i64 kk),(42,.loc 0 0),(47,.sl 1 ((X4a (ls.getD n [])).length) ((X4a (ls.getD n [])).map (D.int .i32))),(48,.i64 w)] ?_
     refine OD.cO [0] [.loc 0 0,.sl 1 ((X4a (ls.getD n [])).length) ((X4a (ls.getD n [])).map (D.int .i32)),.i64 w] (XIe k set no kids mn mx n1 (X4a (ls.getD n [])) w hf hal hn1 hsb (by rw [List.length_map];omega)) (fun r L1 hr=>?_)
     obtain⟨hr0,rfl⟩:=hr
     rcases XLA (ls:=ls) (N:=(.mk k set no kids mn mx)) (n:=n) (a:=w)with⟨he,hrow⟩ | ⟨i,q,tl,he,hrow⟩
     ·
      obtain rfl:r=.tup [.i64 0,.i64 0,.bool false]:=hr0.trans (by rw [he];rfl)
      refine OD.rL 7 [(0,.vR ls),(1,.loc 0 0),(5,.loc 1 0),(6,.loc 2 0),(9,.i64 n),(11,.i64 0),(12,.i64 0),(13,.bool false),(25,.i64 ((ls.length+1:Nat):Int)),(26,.i64 kk)] [.pN (.mk k set no kids mn mx) n1,.box [.i64 sl,.i64 f,.i64 pp],.box [.i64 0,.i64 0,.i64 0]] ?_
      refine OD.nil (CD.seq (CD.region ?_))
      refine OD.rE 1 [(0,.vR ls),(1,.loc 0 0),(5,.loc 1 0),(6,.loc 2 0),(9,.i64 n),(11,.i64 0),(12,.i64 0),(25,.i64 ((ls.length+1:Nat):Int)),(26,.i64 kk),(53,.bool false)] ?_
      refine OD.nil ?_
      refine CD.condF rfl ?_
      refine CD.skip (CD.region ?_)
      refine OD.rE 1 [(0,.vR ls),(1,.loc 0 0),(5,.loc 1 0),(6,.loc 2 0),(25,.i64 ((ls.length+1:Nat):Int)),(58,.i64 (X09 .i64 (((kk:Nat):Int)+1)))] ?_
      refine OD.is 58 rfl (wrn (m:=kk+1) (by omega) (by omega)) ?_
      refine OD.rE 1 [(0,.vR ls),(1,.loc 0 0),(5,.loc 1 0),(6,.loc 2 0),(25,.i64 ((ls.length+1:Nat):Int)),(26,.i64 ((kk+1:Nat):Int))] ?_
      refine OD.nil ?_
      exact⟨_,by omega,kk+1,(by kernel_rfl),by omega,by rw [hr,XLC (by omega) hn ha hrow],rfl⟩
     ·
      obtain rfl:r=.tup [.i64 i,.i64 q,.bool true]:=hr0.trans (by rw [he];rfl)
      refine OD.rL 7 [(0,.vR ls),(1,.loc 0 0),(5,.loc 1 0),(6,.loc 2 0),(9,.i64 n),(11,.i64 i),(12,.i64 q),(13,.bool true),(25,.i64 ((ls.length+1:Nat):Int)),(26,.i64 kk)] [.pN (.mk k set no kids mn mx) n1,.box [.i64 sl,.i64 f,.i64 pp],.box [.i64 0,.i64 0,.i64 0]] ?_
      refine OD.nil (CD.seq (CD.region ?_))
      refine OD.rE 1 [(0,.vR ls),(1,.loc 0 0),(5,.loc 1 0),(6,.loc 2 0),(9,.i64 n),(11,.i64 i),(12,.i64 q),(25,.i64 ((ls.length+1:Nat):Int)),(26,.i64 kk),(53,.bool true)] ?_
      refine OD.nil ?_
      refine CD.condT rfl ?_
      refine CD.seq (CD.region ?_)
      refine OD.rL 6 [(6,.loc 2 0),(7,.bool true)] [.pN (.mk k set no kids mn mx) n1,.box [.i64 sl,.i64 f,.i64 pp],.box [.i64 n,.i64 i,.i64 q]] ?_
      refine OD.nil (CD.ret ?_)
      (try dsimp only);first | refine X01 ?_ | refine X02 ?_
      exact rO 1 (.tup [.agg [.i64 n,.i64 i,.i64 q],.bool true]) [.pN (.mk k set no kids mn mx) n1] (⟨(by rw [XG4,if_neg (by omega),← hzs,← hzo,hr,XIn (by omega) hn ha hrow];rfl:XG2 (XG4 ls (.mk k set no kids mn mx) s)=.tup [.agg [.i64 n,.i64 i,.i64 q],.bool true]).symm,rfl⟩)
   ·
    refine CD.exit ?_
    refine CD.seq (CD.region ?_)
    refine OD.rE 3 [(6,.loc 2 0),(7,.bool false)] ?_
    refine OD.nil (CD.ret ?_)
    (try dsimp only);first | refine X01 ?_ | refine X02 ?_
    exact rO 1 (.tup [.agg [.i64 0,.i64 0,.i64 0],.bool false]) [.pN (.mk k set no kids mn mx) n1] (⟨(by rw [XG4,if_neg (by omega),← hzs,← hzo,hr,XIp (by omega)];rfl:XG2 (XG4 ls (.mk k set no kids mn mx) s)=.tup [.agg [.i64 0,.i64 0,.i64 0],.bool false]).symm,rfl⟩)
end
end Go.Proofs.YtfcadnhoejlgoaaGreatDoor
set_option maxRecDepth 100000
set_option maxHeartbeats 4000000
namespace Go.Proofs.YtfcadnhoejlgoaaGreatDoor
open Go.Vai Go.Nfa
noncomputable section
theorem XLE (k:Int) (set:List (Int×Int)) (no:Bool) (kids:List Nd) (mn mx:Int) (n1:Nat) (ls:List (List Cel)) (s:Int×Int) (pa:Int) (hf:fit (.mk k set no kids mn mx)) (hal:X0H X16 (.mk k set no kids mn mx)) (hn1:(X0F K14 (.mk k set no kids mn mx)).1.length=n1) (hsb:n1≤1000000) (hc10:ls.length≤10) (hall:∀ x∈ls,x.length≤40):FnD P ov 22 [.sl 1 ls.length (ls.map X46),.loc 0 0,.agg [.i64 s.1,.i64 s.2,.i64 pa]] [.box [.sl 9 n1 (((X0F K14 (.mk k set no kids mn mx)).1).flatMap X03),.i64 (((X0F K14 (.mk k set no kids mn mx)).2:Nat):Int),.i64 ((wp K14 20001 (.mk k set no kids mn mx):Nat):Int)]] (fun r L1=>r=XG2 (XG5 ls (.mk k set no kids mn mx) s)∧L1=[.box [.sl 9 n1 (((X0F K14 (.mk k set no kids mn mx)).1).flatMap X03),.i64 (((X0F K14 (.mk k set no kids mn mx)).2:Nat):Int),.i64 ((wp K14 20001 (.mk k set no kids mn mx):Nat):Int)]]):=by
 refine FnD.intro (by kernel_rfl) (fn:=Tryz.f22) (by kernel_rfl) rfl (by kernel_rfl) fun M a0 g0 hg0=>?_
 refine CD.seq (CD.region ?_)
 refine OD.rL 3 [(0,.vR ls),(1,.loc 0 0),(5,.loc 1 0),(6,.loc 2 0)] [.pN (.mk k set no kids mn mx) n1,.box [.i64 s.1,.i64 s.2,.i64 pa],.box [.i64 0,.i64 0,.i64 0]] ?_
 refine OD.nil (CD.seq (CD.seq (CD.region ?_)))
 refine OD.rE 3 [(0,.vR ls),(1,.loc 0 0),(5,.loc 1 0),(6,.loc 2 0),(16,.bool (decide ((((ls.length:Nat):Int):Int)=0)))] ?_
 refine OD.nil ?_
 refine CD.condP rfl (fun h1=>?_) (fun h1=>?_)
 ·
  refine CD.seq (CD.region ?_)
  refine OD.rE 3 [(6,.loc 2 0),(7,.bool false)] ?_
  refine OD.nil (CD.ret ?_)
  (try dsimp only);first | refine X01 ?_ | refine X02 ?_
  exact rO 1 (.tup [.agg [.i64 0,.i64 0,.i64 0],.bool false]) [.pN (.mk k set no kids mn mx) n1] (⟨(by rw [XG5,if_pos (by omega)];rfl:XG2 (XG5 ls (.mk k set no kids mn mx) s)=.tup [.agg [.i64 0,.i64 0,.i64 0],.bool false]).symm,rfl⟩)
 ·
  refine CD.skip ?_
  refine CD.seqM (fun σ=>∃ (z:Int) (f:Int) (pp:Int),σ=⟨[(0,.vR ls),(1,.loc 0 0),(5,.loc 1 0),(6,.loc 2 0)],[.pN (.mk k set no kids mn mx) n1,.box [.i64 z,.i64 f,.i64 pp],.box [.i64 0,.i64 0,.i64 0]]⟩∧(0≤z)∧(z<(ls.length:Int))∧(0≤f∧f≤40)∧(z=(((if inB ls s then s.1.toNat else ls.length - 1):Nat):Int)∧f=(if inB ls s then s.2 else XDG ls))) ?_ (fun σ hI=>?_)
  ·
   refine CD.seq (CD.region ?_)
   refine OD.rE 2 [(0,.vR ls),(1,.loc 0 0),(5,.loc 1 0),(6,.loc 2 0),(18,.vR ls),(19,.agg [.i64 s.1,.i64 s.2,.i64 pa])] ?_
   refine OD.cE (X90 ls s pa) ?_
   refine OD.rE 1 [(0,.vR ls),(1,.loc 0 0),(5,.loc 1 0),(6,.loc 2 0),(21,.bool (!(inB ls s)))] ?_
   refine OD.nil ?_
   refine CD.condB rfl (fun h2=>?_) (fun h2=>?_)
   ·
    have h2:=XBt h2
    refine CD.region ?_
    refine OD.rE 3 [(0,.vR ls),(1,.loc 0 0),(5,.loc 1 0),(6,.loc 2 0),(24,.i64 (X09 .i64 (((ls.length:Nat):Int) - 1)))] ?_
    refine OD.is 24 rfl (X5e (by omega) (by omega)) ?_
    refine OD.is 24 rfl (congrArg (D.int .i64) (show((ls.length:Nat):Int) - 1=((ls.length - 1:Nat):Int)from by omega)) ?_
    refine OD.rE 4 [(0,.vR ls),(1,.loc 0 0),(5,.loc 1 0),(6,.loc 2 0),(24,.i64 ((ls.length - 1:Nat):Int)),(25,.vR ls),(28,.i64 (X09 .i64 (((ls.length:Nat):Int) - 1)))] ?_
    refine OD.is 28 rfl (X5e (by omega) (by omega)) ?_
    refine OD.is 28 rfl (congrArg (D.int .i64) (show((ls.length:Nat):Int) - 1=((ls.length - 1:Nat):Int)from by omega)) ?_
    refine OD.rE 0 [(0,.vR ls),(1,.loc 0 0),(5,.loc 1 0),(6,.loc 2 0),(24,.i64 ((ls.length - 1:Nat):Int)),(25,.vR ls),(28,.i64 ((ls.length - 1:Nat):Int))] ?_
    refine OD.idxSV (i:=(ls.length - 1)) rfl rfl (by kernel_rfl) (by omega) (by omega) ?_
    refine OD.rE 0 [(0,.vR ls),(1,.loc 0 0),(5,.loc 1 0),(6,.loc 2 0),(24,.i64 ((ls.length - 1:Nat):Int)),(29,.ep 1 ls.length (ls.map X46) (ls.length - 1))] ?_
    refine OD.ldSV [] (f:=X46) (xs:=ls) rfl (by kernel_rfl) (by first | omega | (simp<;>omega)) ?_
    refine OD.rL 3 [(0,.vR ls),(1,.loc 0 0),(5,.loc 1 0),(6,.loc 2 0)] [.pN (.mk k set no kids mn mx) n1,.box [.i64 ((ls.length - 1:Nat):Int),.i64 (((ls.getD (ls.length - 1) []).length:Nat):Int),.i64 0],.box [.i64 0,.i64 0,.i64 0]] ?_
    refine OD.nil ?_
    have hin:inB ls s=false:=by simpa using h2
    exact⟨((ls.length - 1:Nat):Int),(((ls.getD (ls.length - 1) []).length:Nat):Int),0,(by kernel_rfl),by omega,by omega,by have:=X2l hall (ls.length - 1);omega,by rw [hin];rw [if_neg (by simp),if_neg (by simp)];exact⟨by omega,rfl⟩⟩
   ·
    have h2:=XBu h2
    refine CD.weak [0,1,5,6] 3 (E':=[(0,.vR ls),(1,.loc 0 0),(5,.loc 1 0),(6,.loc 2 0)]) (by kernel_rfl) (by simp [hg0]) (by kernel_rfl) ?_
    refine CD.skip ?_
    have hin:inB ls s=true:=by simpa using h2
    have hb:=XG3 hin
    have hbn:=X2l hall s.1.toNat
    exact⟨s.1,s.2,pa,(by kernel_rfl),by omega,by omega,by omega,by rw [hin,if_pos rfl,if_pos rfl];omega⟩
  ·
   obtain⟨z,f,pp,e,hz0,hz1,hfb,hzf⟩:=hI
   subst e
   refine CD.seq (CD.seq (CD.region ?_))
   obtain⟨sl,hsl⟩:∃ sl:Nat,z=(sl:Int):=⟨z.toNat,by omega⟩
   subst hsl
   obtain⟨hzs,hzo⟩:=hzf
   have hzs:=Int.ofNat.inj hzs
   refine OD.rL 3 [(0,.vR ls),(1,.loc 0 0),(5,.loc 1 0),(6,.loc 2 0),(35,.i64 (X09 .i64 (((ls.length:Nat):Int)+1)))] [.pN (.mk k set no kids mn mx) n1,.box [.i64 sl,.i64 f,.i64 pp],.box [.i64 0,.i64 0,.i64 0]] ?_
   refine OD.is 35 rfl (wrn (m:=ls.length+1) (by omega) (by omega)) ?_
   refine OD.rE 1 [(0,.vR ls),(1,.loc 0 0),(5,.loc 1 0),(6,.loc 2 0),(35,.i64 ((ls.length+1:Nat):Int)),(36,.i64 0)] ?_
   refine OD.nil (CD.block ?_)
   refine CD.weak [0,1,5,6,35,36] 3 (E':=[(0,.vR ls),(1,.loc 0 0),(5,.loc 1 0),(6,.loc 2 0),(35,.i64 ((ls.length+1:Nat):Int)),(36,.i64 0)]) (by kernel_rfl) (by simp [hg0]) (by kernel_rfl) ?_
   refine CD.loop (fun m σ=>∃ (kk:Nat),σ=⟨[(0,.vR ls),(1,.loc 0 0),(5,.loc 1 0),(6,.loc 2 0),(35,.i64 ((ls.length+1:Nat):Int)),(36,.i64 kk)],[.pN (.mk k set no kids mn mx) n1,.box [.i64 sl,.i64 f,.i64 pp],.box [.i64 0,.i64 0,.i64 0]]⟩∧(kk≤ls.length+1)∧((XAL (tOf ls) (.mk k set no kids mn mx) sl f 0).head?=(XAL (tOf ls) (.mk k set no kids mn mx) sl f kk).head?)∧m=ls.length+1 - kk) (fun m σ hI=>?_) _ ⟨0,(by kernel_rfl),Nat.zero_le _,rfl,rfl⟩
   obtain⟨kk,e,hk,hr,hm⟩:=hI
   subst e hm
   refine CD.seq (CD.region ?_)
   refine OD.rE 1 [(0,.vR ls),(1,.loc 0 0),(5,.loc 1 0),(6,.loc 2 0),(35,.i64 ((ls.length+1:Nat):Int)),(36,.i64 kk),(37,.bool (decide ((((kk:Nat):Int):Int)<((ls.length+1:Nat):Int))))] ?_
   refine OD.nil (CD.seq ?_)
   refine CD.condP rfl (fun h3=>?_) (fun h3=>?_)
   ·
    refine CD.skip (CD.seq (CD.block (CD.seq (CD.region ?_))))
    refine OD.rE 2 [(0,.vR ls),(1,.loc 0 0),(5,.loc 1 0),(6,.loc 2 0),(8,.i64 kk),(35,.i64 ((ls.length+1:Nat):Int)),(36,.i64 kk)] ?_
    refine OD.nil (CD.seq (CD.region ?_))
    refine OD.rE 4 [(0,.vR ls),(1,.loc 0 0),(5,.loc 1 0),(6,.loc 2 0),(8,.i64 kk),(35,.i64 ((ls.length+1:Nat):Int)),(36,.i64 kk),(42,.i64 (X09 .i64 (((sl:Nat):Int) - ((kk:Nat):Int))))] ?_
    refine OD.is 42 rfl (X5e (by omega) (by omega)) ?_
    refine OD.rE 2 [(0,.vR ls),(1,.loc 0 0),(5,.loc 1 0),(6,.loc 2 0),(8,.i64 kk),(35,.i64 ((ls.length+1:Nat):Int)),(36,.i64 kk),(42,.i64 (((sl:Nat):Int) - ((kk:Nat):Int))),(44,.i64 ls.length)] ?_
    have htm:=Int.lt_tmod_of_pos ((sl:Int) - (kk:Int)) (b:=(ls.length:Int)) (by omega)
    have htn:=Int.tmod_lt_of_pos ((sl:Int) - (kk:Int)) (b:=(ls.length:Int)) (by omega)
    refine OD.remZ (n:=ls.length) rfl rfl (by omega) ?_
    refine OD.rE 3 [(0,.vR ls),(1,.loc 0 0),(5,.loc 1 0),(6,.loc 2 0),(8,.i64 kk),(35,.i64 ((ls.length+1:Nat):Int)),(36,.i64 kk),(48,.i64 (X09 .i64 (((((sl:Nat):Int) - ((kk:Nat):Int)).tmod ((ls.length:Nat):Int))+((ls.length:Nat):Int))))] ?_
    refine OD.is 48 rfl (X5e (by omega) (by omega)) ?_
    refine OD.rE 2 [(0,.vR ls),(1,.loc 0 0),(5,.loc 1 0),(6,.loc 2 0),(8,.i64 kk),(35,.i64 ((ls.length+1:Nat):Int)),(36,.i64 kk),(48,.i64 (((((sl:Nat):Int) - ((kk:Nat):Int)).tmod ((ls.length:Nat):Int))+((ls.length:Nat):Int))),(50,.i64 ls.length)] ?_
    obtain⟨n,hn⟩:∃ n,n=nB ls.length sl kk:=⟨_,rfl⟩
    have hnl:n<ls.length:=by rw [hn];exact nB_lt (by omega)
    refine OD.remZ (n:=ls.length) rfl rfl (by omega) ?_
    refine OD.is 51 rfl (congrArg (D.int .i64) ((XHR (z:=(sl:Int) - (kk:Int)) (n:=ls.length) (by omega)).trans (congrArg Nat.cast hn.symm))) ?_
    refine OD.rE 1 [(0,.vR ls),(1,.loc 0 0),(5,.loc 1 0),(6,.loc 2 0),(8,.i64 kk),(9,.i64 n),(35,.i64 ((ls.length+1:Nat):Int)),(36,.i64 kk)] ?_
    refine OD.nil (CD.seq (CD.region ?_))
    refine OD.rE 2 [(0,.vR ls),(1,.loc 0 0),(5,.loc 1 0),(6,.loc 2 0),(8,.i64 kk),(9,.i64 n),(35,.i64 ((ls.length+1:Nat):Int)),(36,.i64 kk),(52,.vR ls),(53,.i64 n)] ?_
    refine OD.idxSV (i:=n) rfl rfl (by kernel_rfl) (by omega) (by omega) ?_
    refine OD.rE 0 [(0,.vR ls),(1,.loc 0 0),(5,.loc 1 0),(6,.loc 2 0),(8,.i64 kk),(9,.i64 n),(35,.i64 ((ls.length+1:Nat):Int)),(36,.i64 kk),(54,.ep 1 ls.length (ls.map X46) n)] ?_
    refine OD.ldSV [] (f:=X46) (xs:=ls) rfl (by kernel_rfl) (by first | omega | (simp<;>omega)) ?_
    refine OD.rE 2 [(0,.vR ls),(1,.loc 0 0),(5,.loc 1 0),(6,.loc 2 0),(8,.i64 kk),(9,.i64 n),(10,.i64 (((ls.getD n []).length:Nat):Int)),(35,.i64 ((ls.length+1:Nat):Int)),(36,.i64 kk)] ?_
    refine OD.nil ?_
    refine CD.seqM (fun σ=>∃ (w:Int),σ=⟨[(0,.vR ls),(1,.loc 0 0),(5,.loc 1 0),(6,.loc 2 0),(9,.i64 n),(10,.i64 w),(35,.i64 ((ls.length+1:Nat):Int)),(36,.i64 kk)],[.pN (.mk k set no kids mn mx) n1,.box [.i64 sl,.i64 f,.i64 pp],.box [.i64 0,.i64 0,.i64 0]]⟩∧(w=if kk=0 then f else((ls.getD n []).length:Int))) ?_ (fun σ hI=>?_)
    ·
     refine CD.seq (CD.region ?_)
     refine OD.rE 2 [(0,.vR ls),(1,.loc 0 0),(5,.loc 1 0),(6,.loc 2 0),(9,.i64 n),(10,.i64 (((ls.getD n []).length:Nat):Int)),(35,.i64 ((ls.length+1:Nat):Int)),(36,.i64 kk),(58,.bool (decide ((((kk:Nat):Int):Int)=0)))] ?_
     refine OD.nil ?_
     refine CD.condP rfl (fun h4=>?_) (fun h4=>?_)
     ·
      refine CD.region ?_
      refine OD.rE 3 [(0,.vR ls),(1,.loc 0 0),(5,.loc 1 0),(6,.loc 2 0),(9,.i64 n),(10,.i64 f),(35,.i64 ((ls.length+1:Nat):Int)),(36,.i64 kk)] ?_
      refine OD.nil ?_
      exact⟨_,rfl,by rw [if_pos (by omega)]⟩
     ·
      refine CD.weak [0,1,5,6,9,10,35,36] 3 (E':=[(0,.vR ls),(1,.loc 0 0),(5,.loc 1 0),(6,.loc 2 0),(9,.i64 n),(10,.i64 (((ls.getD n []).length:Nat):Int)),(35,.i64 ((ls.length+1:Nat):Int)),(36,.i64 kk)]) (by kernel_rfl) (by simp [hg0]) (by kernel_rfl) ?_
      refine CD.skip ?_
      exact⟨_,rfl,by rw [if_neg (by omega)]⟩
    ·
     obtain⟨w,e,ha⟩:=hI
     subst e
     refine CD.seq (CD.region ?_)
     refine OD.rE 3 [(0,.vR ls),(1,.loc 0 0),(5,.loc 1 0),(6,.loc 2 0),(9,.i64 n),(10,.i64 w),(35,.i64 ((ls.length+1:Nat):Int)),(36,.i64 kk),(62,.loc 0 0),(63,.vR ls),(64,.i64 n)] ?_
     refine OD.idxSV (i:=n) rfl rfl (by kernel_rfl) (by omega) (by omega) ?_
     refine OD.rE 0 [(0,.vR ls),(1,.loc 0 0),(5,.loc 1 0),(6,.loc 2 0),(9,.i64 n),(10,.i64 w),(35,.i64 ((ls.length+1:Nat):Int)),(36,.i64 kk),(62,.loc 0 0),(65,.ep 1 ls.length (ls.map X46) n)] ?_
     refine OD.ldSV [] (f:=X46) (xs:=ls) rfl (by kernel_rfl) (by first | omega | (simp<;>omega)) ?_
     refine OD.rE 0 [(0,.vR ls),(1,.loc 0 0),(5,.loc 1 0),(6,.loc 2 0),(9,.i64 n),(10,.i64 w),(35,.i64 ((ls.length+1:Nat):Int)),(36,.i64 kk),(62,.loc 0 0),(66,.sl 3 ((ls.getD n []).length) ((ls.getD n []).flatMap X2k))] ?_
     have hlb0:=X2l hall n
     refine OD.cE (X87 (ls.getD n []) (by omega)) ?_
     refine OD.rE 1 [(0,.vR ls),(1,.loc 0 0),(5,.loc 1 0),(6,.loc 2 0),(9,.i64 n),(35,.i64 ((ls.length+1:Nat):Int)),(36,.i64 kk),(62,.loc 0 0),(67,.sl 1 ((X4a (ls.getD n [])).length) ((X4a (ls.getD n [])).map (D.int .i32))),(68,.i64 w)] ?_
     refine OD.cO [0] [.loc 0 0,.sl 1 ((X4a (ls.getD n [])).length) ((X4a (ls.getD n [])).map (D.int .i32)),.i64 w] (XIf k set no kids mn mx n1 (X4a (ls.getD n [])) w hf hal hn1 hsb (by rw [List.length_map];omega)) (fun r L1 hr=>?_)
     obtain⟨hr0,rfl⟩:=hr
     rcases XLB (ls:=ls) (N:=(.mk k set no kids mn mx)) (n:=n) (b:=w)with⟨he,hrow⟩ | ⟨i,q,tl,he,hrow⟩
     ·
      obtain rfl:r=.tup [.i64 0,.i64 0,.bool false]:=hr0.trans (by rw [he];rfl)
      refine OD.rL 7 [(0,.vR ls),(1,.loc 0 0),(5,.loc 1 0),(6,.loc 2 0),(9,.i64 n),(11,.i64 0),(12,.i64 0),(13,.bool false),(35,.i64 ((ls.length+1:Nat):Int)),(36,.i64 kk)] [.pN (.mk k set no kids mn mx) n1,.box [.i64 sl,.i64 f,.i64 pp],.box [.i64 0,.i64 0,.i64 0]] ?_
      refine OD.nil (CD.seq (CD.region ?_))
      refine OD.rE 1 [(0,.vR ls),(1,.loc 0 0),(5,.loc 1 0),(6,.loc 2 0),(9,.i64 n),(11,.i64 0),(12,.i64 0),(35,.i64 ((ls.length+1:Nat):Int)),(36,.i64 kk),(73,.bool false)] ?_
      refine OD.nil ?_
      refine CD.condF rfl ?_
      refine CD.skip (CD.region ?_)
      refine OD.rE 1 [(0,.vR ls),(1,.loc 0 0),(5,.loc 1 0),(6,.loc 2 0),(35,.i64 ((ls.length+1:Nat):Int)),(78,.i64 (X09 .i64 (((kk:Nat):Int)+1)))] ?_
      refine OD.is 78 rfl (wrn (m:=kk+1) (by omega) (by omega)) ?_
      refine OD.rE 1 [(0,.vR ls),(1,.loc 0 0),(5,.loc 1 0),(6,.loc 2 0),(35,.i64 ((ls.length+1:Nat):Int)),(36,.i64 ((kk+1:Nat):Int))] ?_
      refine OD.nil ?_
      exact⟨_,by omega,kk+1,(by kernel_rfl),by omega,by rw [hr,XLD (by omega) hn ha hrow],rfl⟩
     ·
      obtain rfl:r=.tup [.i64 i,.i64 q,.bool true]:=hr0.trans (by rw [he];rfl)
      refine OD.rL 7 [(0,.vR ls),(1,.loc 0 0),(5,.loc 1 0),(6,.loc 2 0),(9,.i64 n),(11,.i64 i),(12,.i64 q),(13,.bool true),(35,.i64 ((ls.length+1:Nat):Int)),(36,.i64 kk)] [.pN (.mk k set no kids mn mx) n1,.box [.i64 sl,.i64 f,.i64 pp],.box [.i64 0,.i64 0,.i64 0]] ?_
      refine OD.nil (CD.seq (CD.region ?_))
      refine OD.rE 1 [(0,.vR ls),(1,.loc 0 0),(5,.loc 1 0),(6,.loc 2 0),(9,.i64 n),(11,.i64 i),(12,.i64 q),(35,.i64 ((ls.length+1:Nat):Int)),(36,.i64 kk),(73,.bool true)] ?_
      refine OD.nil ?_
      refine CD.condT rfl ?_
      refine CD.seq (CD.region ?_)
      refine OD.rL 6 [(6,.loc 2 0),(7,.bool true)] [.pN (.mk k set no kids mn mx) n1,.box [.i64 sl,.i64 f,.i64 pp],.box [.i64 n,.i64 i,.i64 q]] ?_
      refine OD.nil (CD.ret ?_)
      (try dsimp only);first | refine X01 ?_ | refine X02 ?_
      exact rO 1 (.tup [.agg [.i64 n,.i64 i,.i64 q],.bool true]) [.pN (.mk k set no kids mn mx) n1] (⟨(by rw [XG5,if_neg (by omega),← hzs,← hzo,hr,XIo (by omega) hn ha hrow];rfl:XG2 (XG5 ls (.mk k set no kids mn mx) s)=.tup [.agg [.i64 n,.i64 i,.i64 q],.bool true]).symm,rfl⟩)
   ·
    refine CD.exit ?_
    refine CD.seq (CD.region ?_)
    refine OD.rE 3 [(6,.loc 2 0),(7,.bool false)] ?_
    refine OD.nil (CD.ret ?_)
    (try dsimp only);first | refine X01 ?_ | refine X02 ?_
    exact rO 1 (.tup [.agg [.i64 0,.i64 0,.i64 0],.bool false]) [.pN (.mk k set no kids mn mx) n1] (⟨(by rw [XG5,if_neg (by omega),← hzs,← hzo,hr,XIq (by omega)];rfl:XG2 (XG5 ls (.mk k set no kids mn mx) s)=.tup [.agg [.i64 0,.i64 0,.i64 0],.bool false]).symm,rfl⟩)
end
end Go.Proofs.YtfcadnhoejlgoaaGreatDoor

/-
  What is proved here: what functions of the pattern's package come to (walks that a program of mine has printed). No conditions.
-/
import Derived.Test.YtiebldaihnbkmaaGreatDoorUPa
import Derived.Test.YtiebldaihnbkmaaGreatDoorUG
import Derived.Test.YtiebldaihnbkmaaGreatDoorRM
set_option linter.unusedVariables false
set_option linter.unusedSimpArgs false
set_option maxRecDepth 100000
set_option maxHeartbeats 4000000
namespace Go.Proofs.YtiebldaihnbkmaaGreatDoor
open Go.Vai Go.Nfa Go.Utf
noncomputable section
theorem X9g (s t:ByteArray) (hsz:s.size≤1048576) (htz:t.size≤1048576):X1Q P ov 8 [.str s,.str t] (.bool true):=by
 refine FnD.intro (by kernel_rfl) (fn:=Tryz.f8) (by kernel_rfl) rfl (by kernel_rfl) fun M a0 g0 hg0=>?_
 refine CD.seq ?_
 refine CD.region ?_
 refine OD.runE 1 [0,1] (E':=[(0,.str s),(1,.str t)]) (by kernel_rfl) ?_
 refine OD.nil ?_
 refine CD.seq ?_
 refine CD.region ?_
 refine OD.callE (FnD.known rfl (fun _=>rfl)) rfl (by kernel_rfl) (by kernel_rfl) (by kernel_rfl) ?_
 refine OD.runE 1 [0,1,5] (E':=[(0,.str s),(1,.str t),(5,.bool true)]) (by kernel_rfl) ?_
 refine OD.nil ?_
 refine CD.seq ?_
 refine CD.seq ?_
 refine CD.region ?_
 refine OD.runE 2 [0,1,20] (E':=[(0,.str s),(1,.str t),(20,.bool false)]) (by kernel_rfl) ?_
 refine OD.nil ?_
 refine CD.condF rfl ?_
 refine CD.skip ?_
 refine CD.seq ?_
 refine CD.region ?_
 refine OD.runE 1 [1,21] (E':=[(1,.str t),(21,.str s)]) (by kernel_rfl) ?_
 refine OD.callP (R:=fun r=>∃ l:List Int,r=.vI l∧l.length≤12∧X2E l) rfl (by kernel_rfl) (by kernel_rfl) (by kernel_rfl) (XAd s 12 (by omega)) (fun r hr=>?_)
 obtain⟨a,rfl,hal,has⟩:=hr
 refine OD.runE 1 [22,23] (E':=[(22,.vI a),(23,.str t)]) (by kernel_rfl) ?_
 refine OD.callP (R:=fun r=>∃ l:List Int,r=.vI l∧l.length≤20∧X2E l) rfl (by kernel_rfl) (by kernel_rfl) (by kernel_rfl) (XAd t 20 (by omega)) (fun r hr=>?_)
 obtain⟨b,rfl,hbl,hbs⟩:=hr
 refine OD.runE 2 [6,7] (E':=[(6,.vI a),(7,.vI b)]) (by kernel_rfl) ?_
 refine OD.nil ?_
 refine CD.seq ?_
 refine CD.region ?_
 refine OD.runE 1 [6,7,8] (E':=[(6,.vI a),(7,.vI b),(8,.str ByteArray.empty)]) (by kernel_rfl) ?_
 refine OD.nil ?_
 refine CD.seq ?_
 refine CD.seq ?_
 refine CD.region ?_
 refine OD.runE 1 [6,7,8,9] (E':=[(6,.vI a),(7,.vI b),(8,.str ByteArray.empty),(9,.int .i64 0)]) (by kernel_rfl) ?_
 refine OD.nil ?_
 refine CD.block ?_
 refine CD.weak [6,7,8,9] 0 (E':=[(6,.vI a),(7,.vI b),(8,.str ByteArray.empty),(9,.int .i64 0)]) (by kernel_rfl) (by simp [hg0]) (by kernel_rfl) ?_
 refine CD.loop (fun m σ=>∃ (i:Nat),σ=⟨[(6,.vI a),(7,.vI b),(8,.str (X30 (a.take i))),(9,.int .i64 ((i:Nat):Int))],[]⟩∧(i≤a.length)∧(∀ r∈a.take i,¬ r=65533)∧m=a.length - i) (fun m σ hI=>?_) _ ⟨0,(by kernel_rfl),Nat.zero_le _,(fun r hr=>by cases hr),rfl⟩
 obtain⟨i,e,hi,hnb,hm⟩:=hI
 subst e hm
 refine CD.seq ?_
 refine CD.seq ?_
 refine CD.region ?_
 refine OD.runE 4 [6,7,8,9,28] (E':=[(6,.vI a),(7,.vI b),(8,.str (X30 (a.take i))),(9,.int .i64 ((i:Nat):Int)),(28,.bool (decide ((((i:Nat):Int):Int)<((a.length:Nat):Int))))]) (by kernel_rfl) ?_
 refine OD.nil ?_
 refine CD.condP rfl (fun h1=>?_) (fun h1=>?_)
 ·
  refine CD.skip ?_
  refine CD.seq ?_
  refine CD.block ?_
  refine CD.seq ?_
  refine CD.region ?_
  refine OD.runE 3 [6,7,9,31,32,33] (E':=[(6,.vI a),(7,.vI b),(9,.int .i64 ((i:Nat):Int)),(31,.str (X30 (a.take i))),(32,.vI a),(33,.int .i64 ((i:Nat):Int))]) (by kernel_rfl) ?_
  refine OD.idxSV (i:=i) rfl rfl (by kernel_rfl) (by omega) (by omega) ?_
  refine OD.runE 0 [6,7,9,31,34] (E':=[(6,.vI a),(7,.vI b),(9,.int .i64 ((i:Nat):Int)),(31,.str (X30 (a.take i))),(34,.ep 1 a.length (a.map (D.int .i32)) i)]) (by kernel_rfl) ?_
  refine OD.ldSV 0 (f:=(D.int .i32)) (xs:=a) rfl (by kernel_rfl) (by first | omega | (simp only [List.length_set,List.length_replicate,List.length_append,List.length_singleton,List.length_cons,List.length_nil];omega)) ?_
  refine OD.runE 0 [6,7,9,31,35] (E':=[(6,.vI a),(7,.vI b),(9,.int .i64 ((i:Nat):Int)),(31,.str (X30 (a.take i))),(35,.int .i32 (a.getD i 0))]) (by kernel_rfl) ?_
  refine OD.callE (XHo (a.getD i 0) (XCG has (by omega))) rfl (by kernel_rfl) (by kernel_rfl) (by kernel_rfl) ?_
  refine OD.runE 0 [6,7,9,31,36] (E':=[(6,.vI a),(7,.vI b),(9,.int .i64 ((i:Nat):Int)),(31,.str (X30 (a.take i))),(36,.str (X85 (a.getD i 0)))]) (by kernel_rfl) ?_
  refine OD.catS rfl rfl (catA _) ?_
  refine OD.runE 0 [6,7,9,31,37] (E':=[(6,.vI a),(7,.vI b),(9,.int .i64 ((i:Nat):Int)),(31,.str (X30 (a.take i))),(37,.str ((⟨#[92]⟩:ByteArray)++(X85 (a.getD i 0))))]) (by kernel_rfl) ?_
  refine OD.catS rfl rfl (catB _ _ _ hal) ?_
  refine OD.is 38 rfl (XCF (by omega)) ?_
  refine OD.runE 1 [6,7,8,9] (E':=[(6,.vI a),(7,.vI b),(8,.str (X30 (a.take (i+1)))),(9,.int .i64 ((i:Nat):Int))]) (by kernel_rfl) ?_
  refine OD.nil ?_
  refine CD.seq ?_
  refine CD.region ?_
  refine OD.runE 2 [6,7,8,9,39,40] (E':=[(6,.vI a),(7,.vI b),(8,.str (X30 (a.take (i+1)))),(9,.int .i64 ((i:Nat):Int)),(39,.vI a),(40,.int .i64 ((i:Nat):Int))]) (by kernel_rfl) ?_
  refine OD.idxSV (i:=i) rfl rfl (by kernel_rfl) (by omega) (by omega) ?_
  refine OD.runE 0 [6,7,8,9,41] (E':=[(6,.vI a),(7,.vI b),(8,.str (X30 (a.take (i+1)))),(9,.int .i64 ((i:Nat):Int)),(41,.ep 1 a.length (a.map (D.int .i32)) i)]) (by kernel_rfl) ?_
  refine OD.ldSV 0 (f:=(D.int .i32)) (xs:=a) rfl (by kernel_rfl) (by first | omega | (simp only [List.length_set,List.length_replicate,List.length_append,List.length_singleton,List.length_cons,List.length_nil];omega)) ?_
  refine OD.runE 1 [6,7,8,9,43] (E':=[(6,.vI a),(7,.vI b),(8,.str (X30 (a.take (i+1)))),(9,.int .i64 ((i:Nat):Int)),(43,.bool (decide (((a.getD i 0):Int)=65533)))]) (by kernel_rfl) ?_
  refine OD.nil ?_
  refine CD.condP rfl (fun h2=>?_) (fun h2=>?_)
  ·
   refine CD.seq ?_
   refine CD.region ?_
   refine OD.runE 1 [4] (E':=[(4,.bool true)]) (by kernel_rfl) ?_
   refine OD.nil ?_
   refine CD.ret ?_
   exact X6O (by kernel_rfl) (by kernel_rfl) (r:=.bool true) (rfl)
  ·
   refine CD.skip ?_
   refine CD.region ?_
   refine OD.runE 2 [6,7,8,30] (E':=[(6,.vI a),(7,.vI b),(8,.str (X30 (a.take (i+1)))),(30,.int .i64 (X05 .i64 (((i:Nat):Int)+1)))]) (by kernel_rfl) ?_
   refine OD.is 30 rfl (wrn (m:=i+1) (by omega) (by omega)) ?_
   refine OD.runE 1 [6,7,8,9] (E':=[(6,.vI a),(7,.vI b),(8,.str (X30 (a.take (i+1)))),(9,.int .i64 ((i+1:Nat):Int))]) (by kernel_rfl) ?_
   refine OD.nil ?_
   exact⟨_,by omega,i+1,(by kernel_rfl),by omega,XB2 hnb (by omega) (by assumption),rfl⟩
 ·
  refine CD.exit ?_
  refine CD.seq ?_
  refine CD.region ?_
  have hia:a.take i=a:=List.take_of_length_le (by omega)
  rw [hia]at hnb
  refine OD.is 8 rfl (congrArg (fun l=>D.str (X30 l)) hia) ?_
  have hrs:=X87 a
  refine OD.runE 1 [6,7,8,45] (E':=[(6,.vI a),(7,.vI b),(8,.str (X30 a)),(45,.str (X30 a))]) (by kernel_rfl) ?_
  refine OD.callP (R:=XFf (X30 a)) rfl (by kernel_rfl) (by kernel_rfl) (by kernel_rfl) (XFF (X30 a) (by omega)) (fun r hr=>?_)
  rcases hr with⟨hN,rfl⟩ | ⟨⟨k,set,no,kids,mn,mx⟩,hN,rfl⟩
  ·
   have hno:=XIa has hnb hN
   refine OD.run 6 [6,7,8,10,11] (E':=[(6,.vI a),(7,.vI b),(8,.str (X30 a)),(10,.loc 0 0),(11,.int .i64 5)]) (L':=[.box (X11 X9M)]) (by kernel_rfl) ?_
   refine OD.nil ?_
   refine CD.seq ?_
   refine CD.seq ?_
   refine CD.region ?_
   refine OD.runE 4 [6,7,8,10,11,52] (E':=[(6,.vI a),(7,.vI b),(8,.str (X30 a)),(10,.loc 0 0),(11,.int .i64 5),(52,.bool (decide ((((a.length:Nat):Int):Int)=0)))]) (by kernel_rfl) ?_
   refine OD.ifP 52 rfl (fun h3=>?_) (fun h3=>?_)
   ·
    refine OD.runE 4 [6,7,10,11,56] (E':=[(6,.vI a),(7,.vI b),(10,.loc 0 0),(11,.int .i64 5),(56,.bool true)]) (by kernel_rfl) ?_
    refine OD.nil ?_
    refine CD.condT rfl ?_
    refine CD.seq ?_
    refine CD.region ?_
    refine OD.runE 3 [4] (E':=[(4,.bool true)]) (by kernel_rfl) ?_
    refine OD.nil ?_
    refine CD.ret ?_
    exact X6O (by kernel_rfl) (by kernel_rfl) (r:=.bool true) (rfl)
   ·
    refine OD.runE 4 [6,7,10,11,56] (E':=[(6,.vI a),(7,.vI b),(10,.loc 0 0),(11,.int .i64 5),(56,.bool (decide ((60:Int)<(((X30 a).size:Nat):Int))))]) (by kernel_rfl) ?_
    refine OD.nil ?_
    refine CD.condP rfl (fun h4=>?_) (fun h4=>?_)
    ·
     refine CD.seq ?_
     refine CD.region ?_
     refine OD.runE 3 [4] (E':=[(4,.bool true)]) (by kernel_rfl) ?_
     refine OD.nil ?_
     refine CD.ret ?_
     exact X6O (by kernel_rfl) (by kernel_rfl) (r:=.bool true) (rfl)
    ·
     refine CD.skip ?_
     refine CD.seq ?_
     refine CD.region ?_
     refine OD.runE 1 [6,7,11,60] (E':=[(6,.vI a),(7,.vI b),(11,.int .i64 5),(60,.agg (X11 X9M))]) (by kernel_rfl) ?_
     exfalso;rcases hno with h | h
     · omega
     · have:=congrArg List.length h;simp only [List.length_nil]at this;omega
  ·
   obtain⟨hf,hall,hz60⟩:=XAx hN
   obtain⟨h60,hne,hrow⟩:=XGe has hnb hN
   have hal0:0<a.length:=List.length_pos_iff.2 hne
   have hcm:=XEd hne hal has hnb
   rw [← hrow]at hcm
   refine OD.run 6 [6,7,8,10,11] (E':=[(6,.vI a),(7,.vI b),(8,.str (X30 a)),(10,.loc 0 0),(11,.int .i64 0)]) (L':=[.box (cN k set no kids mn mx)]) (by kernel_rfl) ?_
   refine OD.nil ?_
   refine CD.seq ?_
   refine CD.seq ?_
   refine CD.region ?_
   refine OD.runE 4 [6,7,8,10,11,52] (E':=[(6,.vI a),(7,.vI b),(8,.str (X30 a)),(10,.loc 0 0),(11,.int .i64 0),(52,.bool (decide ((((a.length:Nat):Int):Int)=0)))]) (by kernel_rfl) ?_
   refine OD.ifP 52 rfl (fun h5=>?_) (fun h5=>?_)
   ·
    refine OD.runE 4 [6,7,10,11,56] (E':=[(6,.vI a),(7,.vI b),(10,.loc 0 0),(11,.int .i64 0),(56,.bool true)]) (by kernel_rfl) ?_
    refine OD.nil ?_
    refine CD.condT rfl ?_
    refine CD.seq ?_
    refine CD.region ?_
    refine OD.runE 3 [4] (E':=[(4,.bool false)]) (by kernel_rfl) ?_
    refine OD.nil ?_
    refine CD.ret ?_
    exact X6O (by kernel_rfl) (by kernel_rfl) (r:=.bool false) (by first | rfl | (exfalso;omega) | exact absurd rfl h5 | (exfalso;rcases ‹_∨_› with h | h<;>first | omega | (exact hne (List.length_eq_zero_iff.1 (by omega)))) | exact congrArg D.bool (decide_eq_true rfl))
   ·
    refine OD.runE 4 [6,7,10,11,56] (E':=[(6,.vI a),(7,.vI b),(10,.loc 0 0),(11,.int .i64 0),(56,.bool (decide ((60:Int)<(((X30 a).size:Nat):Int))))]) (by kernel_rfl) ?_
    refine OD.nil ?_
    refine CD.condP rfl (fun h6=>?_) (fun h6=>?_)
    ·
     refine CD.seq ?_
     refine CD.region ?_
     refine OD.runE 3 [4] (E':=[(4,.bool false)]) (by kernel_rfl) ?_
     refine OD.nil ?_
     refine CD.ret ?_
     exact X6O (by kernel_rfl) (by kernel_rfl) (r:=.bool false) (by first | rfl | (exfalso;omega) | exact absurd rfl h6 | (exfalso;rcases ‹_∨_› with h | h<;>first | omega | (exact hne (List.length_eq_zero_iff.1 (by omega)))) | exact congrArg D.bool (decide_eq_true rfl))
    ·
     refine CD.skip ?_
     refine CD.seq ?_
     refine CD.region ?_
     refine OD.runE 1 [6,7,11,60] (E':=[(6,.vI a),(7,.vI b),(11,.int .i64 0),(60,.agg (cN k set no kids mn mx))]) (by kernel_rfl) ?_
     refine OD.callO [] (ds:=[.agg (cN k set no kids mn mx)]) (XAv k set no kids mn mx hf) rfl (by kernel_rfl) (by kernel_rfl) (by kernel_rfl) (by kernel_rfl) (by kernel_rfl) (fun r L1 hr=>?_)
     rcases hr with⟨hc1,hc2,n1,hn1,rfl,rfl⟩ | ⟨hc1,hc2,rfl,rfl⟩ | ⟨hc1,rfl,rfl⟩
     ·
      have hal:=XGI hc1
      have hml:=X99 hal hc2
      refine OD.runE 5 [6,7,11,12,13] (E':=[(6,.vI a),(7,.vI b),(11,.int .i64 0),(12,.loc 2 0),(13,.int .i64 0)]) (by kernel_rfl) ?_
      refine OD.nil ?_
      refine CD.seq ?_
      refine CD.seq ?_
      refine CD.region ?_
      refine OD.runE 6 [6,7,12,69] (E':=[(6,.vI a),(7,.vI b),(12,.loc 2 0),(69,.bool false)]) (by kernel_rfl) ?_
      refine OD.nil ?_
      refine CD.condF rfl ?_
      refine CD.skip ?_
      refine CD.seq ?_
      refine CD.region ?_
      refine OD.runE 1 [6,7,12,70] (E':=[(6,.vI a),(7,.vI b),(12,.loc 2 0),(70,.vI b)]) (by kernel_rfl) ?_
      refine OD.appC rfl (by kernel_rfl) rfl (by omega) (by omega) ?_
      refine OD.runE 1 [6,7,12,71,72] (E':=[(6,.vI a),(7,.vI b),(12,.loc 2 0),(71,.row 4 0 b.length b.length),(72,.vI a)]) (by kernel_rfl) ?_
      refine OD.appV' (f:=(D.int .i32)) (xs:=b) (vs:=a) rfl (by kernel_rfl) rfl (by kernel_rfl) rfl rfl rfl rfl (by omega) ?_
      refine OD.runE 1 [6,12,73,74] (E':=[(6,.vI a),(12,.loc 2 0),(73,.row 4 0 (b.length+a.length) (b.length+a.length)),(74,.vI b)]) (by kernel_rfl) ?_
      refine OD.appV' (f:=(D.int .i32)) (xs:=(b++a)) (vs:=b) rfl (by kernel_rfl) rfl (by kernel_rfl) rfl rfl rfl (by rw [List.length_append]) (by omega) ?_
      refine OD.runE 1 [6,7,12] (E':=[(6,.vI a),(7,.row 4 0 (b.length+a.length+b.length) (b.length+a.length+b.length)),(12,.loc 2 0)]) (by kernel_rfl) ?_
      refine OD.nil ?_
      refine CD.seq ?_
      refine CD.seq ?_
      refine CD.region ?_
      refine OD.freeze 7 rfl rfl (Nat.le_refl _) ?_
      obtain⟨L,hL⟩:∃ L,L=((b++a)++b):=⟨_,rfl⟩
      have hLl:L.length=b.length+a.length+b.length:=by rw [hL];simp only [List.length_append]
      refine OD.is 7 rfl (show D.sl 1 (b.length+a.length+b.length) ((((b++a)++b)).map (D.int .i32))=.vI L by rw [hL];exact congrArg (fun n=>D.sl 1 n ((((b++a)++b)).map (D.int .i32))) (show b.length+a.length+b.length=(((b++a)++b)).length by simp only [List.length_append])) ?_
      refine OD.runE 1 [6,7,12,14] (E':=[(6,.vI a),(7,.vI L),(12,.loc 2 0),(14,.int .i64 0)]) (by kernel_rfl) ?_
      refine OD.nil ?_
      refine CD.block ?_
      refine CD.weak [6,7,12,14] 5 (E':=[(6,.vI a),(7,.vI L),(12,.loc 2 0),(14,.int .i64 0)]) (by kernel_rfl) (by simp [hg0]) (by kernel_rfl) ?_
      refine CD.loop (fun m σ=>∃ (at_:Nat),σ=⟨[(6,.vI a),(7,.vI L),(12,.loc 2 0),(14,.int .i64 ((at_:Nat):Int))],[.box (cN k set no kids mn mx),.box (cN k set no kids mn mx),.pN (.mk k set no kids mn mx) n1,.dead,.dead]⟩∧(at_≤L.length+1)∧m=L.length+1 - at_) (fun m σ hI=>?_) _ ⟨0,(by kernel_rfl),Nat.zero_le _,rfl⟩
      obtain⟨at_,e,hat,hm⟩:=hI
      subst e hm
      refine CD.seq ?_
      refine CD.seq ?_
      refine CD.region ?_
      refine OD.runE 4 [6,7,12,14,79] (E':=[(6,.vI a),(7,.vI L),(12,.loc 2 0),(14,.int .i64 ((at_:Nat):Int)),(79,.bool (decide ((((at_:Nat):Int):Int)≤((L.length:Nat):Int))))]) (by kernel_rfl) ?_
      refine OD.nil ?_
      refine CD.condP rfl (fun h7=>?_) (fun h7=>?_)
      ·
       refine CD.skip ?_
       refine CD.seq ?_
       refine CD.block ?_
       refine CD.seq ?_
       refine CD.region ?_
       refine OD.runE 4 [6,7,12,14,85] (E':=[(6,.vI a),(7,.vI L),(12,.loc 2 0),(14,.int .i64 ((at_:Nat):Int)),(85,.int .i64 (X05 .i64 (((at_:Nat):Int)+((a.length:Nat):Int))))]) (by kernel_rfl) ?_
       refine OD.is 85 rfl (wrn (m:=at_+a.length) (by omega) (by omega)) ?_
       refine OD.runE 4 [6,7,12,14,15] (E':=[(6,.vI a),(7,.vI L),(12,.loc 2 0),(14,.int .i64 ((at_:Nat):Int)),(15,.bool (decide ((((at_+a.length:Nat):Int):Int)≤((L.length:Nat):Int))))]) (by kernel_rfl) ?_
       refine OD.nil ?_
       refine CD.seq ?_
       refine CD.seq ?_
       refine CD.region ?_
       refine OD.runE 1 [6,7,12,14,15,16] (E':=[(6,.vI a),(7,.vI L),(12,.loc 2 0),(14,.int .i64 ((at_:Nat):Int)),(15,.bool (decide ((((at_+a.length:Nat):Int):Int)≤((L.length:Nat):Int)))),(16,.int .i64 0)]) (by kernel_rfl) ?_
       refine OD.nil ?_
       refine CD.block ?_
       refine CD.weak [6,7,12,14,15,16] 5 (E':=[(6,.vI a),(7,.vI L),(12,.loc 2 0),(14,.int .i64 ((at_:Nat):Int)),(15,.bool (decide ((((at_+a.length:Nat):Int):Int)≤((L.length:Nat):Int)))),(16,.int .i64 0)]) (by kernel_rfl) (by simp [hg0]) (by kernel_rfl) ?_
       refine CD.loop (fun m σ=>∃ (k2:Nat) (ok:Bool),σ=⟨[(6,.vI a),(7,.vI L),(12,.loc 2 0),(14,.int .i64 ((at_:Nat):Int)),(15,.bool ok),(16,.int .i64 ((k2:Nat):Int))],[.box (cN k set no kids mn mx),.box (cN k set no kids mn mx),.pN (.mk k set no kids mn mx) n1,.dead,.dead]⟩∧(k2≤a.length)∧(XBh L a at_ k2 ok)∧m=a.length - k2) (fun m σ hI=>?_) _ ⟨0,(decide ((((at_+a.length:Nat):Int):Int)≤((L.length:Nat):Int))),(by kernel_rfl),Nat.zero_le _,XBh.first,rfl⟩
       obtain⟨k2,ok,e,hk,hK,hm⟩:=hI
       subst e hm
       refine CD.seq ?_
       refine CD.seq ?_
       refine CD.region ?_
       refine OD.runE 5 [6,7,12,14,15,16,93] (E':=[(6,.vI a),(7,.vI L),(12,.loc 2 0),(14,.int .i64 ((at_:Nat):Int)),(15,.bool ok),(16,.int .i64 ((k2:Nat):Int)),(93,.bool (decide ((((k2:Nat):Int):Int)<((a.length:Nat):Int))))]) (by kernel_rfl) ?_
       refine OD.ifP 93 rfl (fun h8=>?_) (fun h8=>?_)
       ·
        refine OD.runE 2 [6,7,12,14,15,16,95] (E':=[(6,.vI a),(7,.vI L),(12,.loc 2 0),(14,.int .i64 ((at_:Nat):Int)),(15,.bool ok),(16,.int .i64 ((k2:Nat):Int)),(95,.bool ok)]) (by kernel_rfl) ?_
        refine OD.nil ?_
        refine CD.condB rfl (fun h9=>?_) (fun h9=>?_)
        ·
         refine CD.skip ?_
         refine CD.seq ?_
         refine CD.block ?_
         refine CD.drawn (by kernel_rfl) ?_
         rw [h9]at hK
         have hKt:=(hK.1 rfl).1
         refine OD.runE 4 [6,7,12,14,16,98,101] (E':=[(6,.vI a),(7,.vI L),(12,.loc 2 0),(14,.int .i64 ((at_:Nat):Int)),(16,.int .i64 ((k2:Nat):Int)),(98,.vI L),(101,.int .i64 (X05 .i64 (((at_:Nat):Int)+((k2:Nat):Int))))]) (by kernel_rfl) ?_
         refine OD.is 101 rfl (wrn (m:=at_+k2) (by omega) (by omega)) ?_
         refine OD.runE 0 [6,7,12,14,16,98,101] (E':=[(6,.vI a),(7,.vI L),(12,.loc 2 0),(14,.int .i64 ((at_:Nat):Int)),(16,.int .i64 ((k2:Nat):Int)),(98,.vI L),(101,.int .i64 ((at_+k2:Nat):Int))]) (by kernel_rfl) ?_
         refine OD.idxSV (i:=(at_+k2)) rfl rfl (by kernel_rfl) (by omega) (by omega) ?_
         refine OD.runE 0 [6,7,12,14,16,102] (E':=[(6,.vI a),(7,.vI L),(12,.loc 2 0),(14,.int .i64 ((at_:Nat):Int)),(16,.int .i64 ((k2:Nat):Int)),(102,.ep 1 L.length (L.map (D.int .i32)) (at_+k2))]) (by kernel_rfl) ?_
         refine OD.ldSV 0 (f:=(D.int .i32)) (xs:=L) rfl (by kernel_rfl) (by first | omega | (simp only [List.length_set,List.length_replicate,List.length_append,List.length_singleton,List.length_cons,List.length_nil];omega)) ?_
         refine OD.runE 2 [6,7,12,14,16,103,104,105] (E':=[(6,.vI a),(7,.vI L),(12,.loc 2 0),(14,.int .i64 ((at_:Nat):Int)),(16,.int .i64 ((k2:Nat):Int)),(103,.int .i32 (L.getD (at_+k2) 0)),(104,.vI a),(105,.int .i64 ((k2:Nat):Int))]) (by kernel_rfl) ?_
         refine OD.idxSV (i:=k2) rfl rfl (by kernel_rfl) (by omega) (by omega) ?_
         refine OD.runE 0 [6,7,12,14,16,103,106] (E':=[(6,.vI a),(7,.vI L),(12,.loc 2 0),(14,.int .i64 ((at_:Nat):Int)),(16,.int .i64 ((k2:Nat):Int)),(103,.int .i32 (L.getD (at_+k2) 0)),(106,.ep 1 a.length (a.map (D.int .i32)) k2)]) (by kernel_rfl) ?_
         refine OD.ldSV 0 (f:=(D.int .i32)) (xs:=a) rfl (by kernel_rfl) (by first | omega | (simp only [List.length_set,List.length_replicate,List.length_append,List.length_singleton,List.length_cons,List.length_nil];omega)) ?_
         refine OD.runE 2 [6,7,12,14,15,16] (E':=[(6,.vI a),(7,.vI L),(12,.loc 2 0),(14,.int .i64 ((at_:Nat):Int)),(15,.bool (decide (((L.getD (at_+k2) 0):Int)=(a.getD k2 0)))),(16,.int .i64 ((k2:Nat):Int))]) (by kernel_rfl) ?_
         refine OD.nil ⟨by kernel_rfl,?_⟩
         refine CD.region ?_
         refine OD.runE 2 [6,7,12,14,15,97] (E':=[(6,.vI a),(7,.vI L),(12,.loc 2 0),(14,.int .i64 ((at_:Nat):Int)),(15,.bool (decide (((L.getD (at_+k2) 0):Int)=(a.getD k2 0)))),(97,.int .i64 (X05 .i64 (((k2:Nat):Int)+1)))]) (by kernel_rfl) ?_
         refine OD.is 97 rfl (wrn (m:=k2+1) (by omega) (by omega)) ?_
         refine OD.runE 1 [6,7,12,14,15,16] (E':=[(6,.vI a),(7,.vI L),(12,.loc 2 0),(14,.int .i64 ((at_:Nat):Int)),(15,.bool (decide (((L.getD (at_+k2) 0):Int)=(a.getD k2 0)))),(16,.int .i64 ((k2+1:Nat):Int))]) (by kernel_rfl) ?_
         refine OD.nil ?_
         exact⟨_,by omega,k2+1,(decide (((L.getD (at_+k2) 0):Int)=(a.getD k2 0))),(by kernel_rfl),by omega,XBh.next hK (by omega),rfl⟩
        ·
         refine CD.exit ?_
         refine CD.seq ?_
         refine CD.region ?_
         refine OD.runE 3 [6,7,12,14,15,109,110,111] (E':=[(6,.vI a),(7,.vI L),(12,.loc 2 0),(14,.int .i64 ((at_:Nat):Int)),(15,.bool ok),(109,.loc 2 0),(110,.vI L),(111,.int .i64 ((at_:Nat):Int))]) (by kernel_rfl) ?_
         have hends:=XAD hrow hne has hnb (i:=at_) (by omega) (hK.fin hne (by omega) (by first | omega | (right;assumption)))
         have hge:=XC2 (.mk k set no kids mn mx) (X0x K14 (.mk k set no kids mn mx)).1 (X0x K14 (.mk k set no kids mn mx)).2 n1 ((wp K14 20001 (.mk k set no kids mn mx):Nat):Int) L ((at_:Nat):Int) hall rfl (X6e hf) hn1 (by omega) (by omega)
         rw [hends]at hge
         cases ok with
         | false =>
          refine OD.runE 0 [6,7,12,14,15,109,110,111] (E':=[(6,.vI a),(7,.vI L),(12,.loc 2 0),(14,.int .i64 ((at_:Nat):Int)),(15,.bool false),(109,.loc 2 0),(110,.vI L),(111,.int .i64 ((at_:Nat):Int))]) (by kernel_rfl) ?_
          refine OD.callO [2] (ds:=[.loc 2 0,.vI L,.int .i64 ((at_:Nat):Int)]) (hge) rfl (by kernel_rfl) (by kernel_rfl) (by kernel_rfl) (by kernel_rfl) (by kernel_rfl) (fun r L1 hr=>?_)
          obtain⟨rfl,rfl⟩:=hr
          refine OD.runE 1 [6,7,12,14,15,17] (E':=[(6,.vI a),(7,.vI L),(12,.loc 2 0),(14,.int .i64 ((at_:Nat):Int)),(15,.bool false),(17,.sl 1 0 ([]))]) (by kernel_rfl) ?_
          refine OD.nil ?_
          refine CD.seq ?_
          refine CD.region ?_
          refine OD.runE 3 [6,7,12,14,15,17,114,115] (E':=[(6,.vI a),(7,.vI L),(12,.loc 2 0),(14,.int .i64 ((at_:Nat):Int)),(15,.bool false),(17,.sl 1 0 ([])),(114,.int .i64 0),(115,.bool false)]) (by kernel_rfl) ?_
          refine OD.callE (XDR) rfl (by kernel_rfl) (by kernel_rfl) (by kernel_rfl) ?_
          refine OD.runE 14 [6,7,12,14,130] (E':=[(6,.vI a),(7,.vI L),(12,.loc 2 0),(14,.int .i64 ((at_:Nat):Int)),(130,.bool false)]) (by kernel_rfl) ?_
          refine OD.nil ?_
          refine CD.condF rfl ?_
          refine CD.skip ?_
          refine CD.region ?_
          refine OD.runE 2 [6,7,12,81] (E':=[(6,.vI a),(7,.vI L),(12,.loc 2 0),(81,.int .i64 (X05 .i64 (((at_:Nat):Int)+1)))]) (by kernel_rfl) ?_
          refine OD.is 81 rfl (wrn (m:=at_+1) (by omega) (by omega)) ?_
          refine OD.runE 1 [6,7,12,14] (E':=[(6,.vI a),(7,.vI L),(12,.loc 2 0),(14,.int .i64 ((at_+1:Nat):Int))]) (by kernel_rfl) ?_
          refine OD.nil ?_
          exact⟨_,by omega,at_+1,(by kernel_rfl),by omega,rfl⟩
         | true =>
          refine OD.runE 0 [6,7,12,14,15,109,110,111] (E':=[(6,.vI a),(7,.vI L),(12,.loc 2 0),(14,.int .i64 ((at_:Nat):Int)),(15,.bool true),(109,.loc 2 0),(110,.vI L),(111,.int .i64 ((at_:Nat):Int))]) (by kernel_rfl) ?_
          refine OD.callO [2] (ds:=[.loc 2 0,.vI L,.int .i64 ((at_:Nat):Int)]) (hge) rfl (by kernel_rfl) (by kernel_rfl) (by kernel_rfl) (by kernel_rfl) (by kernel_rfl) (fun r L1 hr=>?_)
          obtain⟨rfl,rfl⟩:=hr
          refine OD.runE 1 [6,7,12,14,15,17] (E':=[(6,.vI a),(7,.vI L),(12,.loc 2 0),(14,.int .i64 ((at_:Nat):Int)),(15,.bool true),(17,.sl 1 1 (([at_+a.length]).map X0e))]) (by kernel_rfl) ?_
          refine OD.nil ?_
          refine CD.seq ?_
          refine CD.region ?_
          refine OD.runE 3 [6,7,12,14,15,17,114,115] (E':=[(6,.vI a),(7,.vI L),(12,.loc 2 0),(14,.int .i64 ((at_:Nat):Int)),(15,.bool true),(17,.sl 1 1 (([at_+a.length]).map X0e)),(114,.int .i64 1),(115,.bool true)]) (by kernel_rfl) ?_
          refine OD.callE (XDS) rfl (by kernel_rfl) (by kernel_rfl) (by kernel_rfl) ?_
          refine OD.runE 5 [6,7,12,14,118,120,121] (E':=[(6,.vI a),(7,.vI L),(12,.loc 2 0),(14,.int .i64 ((at_:Nat):Int)),(118,.bool false),(120,.bool true),(121,.sl 1 1 (([at_+a.length]).map X0e))]) (by kernel_rfl) ?_
          refine OD.guard rfl rfl ?_
          refine OD.idxSV (i:=0) rfl rfl (by kernel_rfl) (by omega) (by omega) ?_
          refine OD.runE 0 [6,7,12,14,118,120,122] (E':=[(6,.vI a),(7,.vI L),(12,.loc 2 0),(14,.int .i64 ((at_:Nat):Int)),(118,.bool false),(120,.bool true),(122,.ep 1 1 (([at_+a.length]).map X0e) 0)]) (by kernel_rfl) ?_
          refine OD.guard rfl rfl ?_
          refine OD.ldSV 0 (f:=X0e) (xs:=([at_+a.length])) rfl (by kernel_rfl) (by first | omega | (simp only [List.length_set,List.length_replicate,List.length_append,List.length_singleton,List.length_cons,List.length_nil];omega)) ?_
          refine OD.runE 4 [6,7,12,14,118,120,123,127] (E':=[(6,.vI a),(7,.vI L),(12,.loc 2 0),(14,.int .i64 ((at_:Nat):Int)),(118,.bool false),(120,.bool true),(123,.int .i64 (((([at_+a.length]).getD 0 0):Nat):Int)),(127,.int .i64 (X05 .i64 (((at_:Nat):Int)+((a.length:Nat):Int))))]) (by kernel_rfl) ?_
          refine OD.is 127 rfl (wrn (m:=at_+a.length) (by omega) (by omega)) ?_
          refine OD.runE 3 [6,7,12,14,130] (E':=[(6,.vI a),(7,.vI L),(12,.loc 2 0),(14,.int .i64 ((at_:Nat):Int)),(130,.bool (decide (¬ ((((([at_+a.length]).getD 0 0):Nat):Int):Int)=((at_+a.length:Nat):Int))))]) (by kernel_rfl) ?_
          refine OD.nil ?_
          refine CD.condP rfl (fun h10=>?_) (fun h10=>?_)
          ·
           refine CD.seq ?_
           refine CD.region ?_
           refine OD.runE 1 [4] (E':=[(4,.bool false)]) (by kernel_rfl) ?_
           refine OD.nil ?_
           refine CD.ret ?_
           exact X6O (by kernel_rfl) (by kernel_rfl) (r:=.bool false) (by first | rfl | (exfalso;omega) | exact absurd rfl h10 | (exfalso;rcases ‹_∨_› with h | h<;>first | omega | (exact hne (List.length_eq_zero_iff.1 (by omega)))) | exact congrArg D.bool (decide_eq_true rfl))
          ·
           refine CD.skip ?_
           refine CD.region ?_
           refine OD.runE 2 [6,7,12,81] (E':=[(6,.vI a),(7,.vI L),(12,.loc 2 0),(81,.int .i64 (X05 .i64 (((at_:Nat):Int)+1)))]) (by kernel_rfl) ?_
           refine OD.is 81 rfl (wrn (m:=at_+1) (by omega) (by omega)) ?_
           refine OD.runE 1 [6,7,12,14] (E':=[(6,.vI a),(7,.vI L),(12,.loc 2 0),(14,.int .i64 ((at_+1:Nat):Int))]) (by kernel_rfl) ?_
           refine OD.nil ?_
           exact⟨_,by omega,at_+1,(by kernel_rfl),by omega,rfl⟩
       ·
        refine OD.runE 2 [6,7,12,14,15,16,95] (E':=[(6,.vI a),(7,.vI L),(12,.loc 2 0),(14,.int .i64 ((at_:Nat):Int)),(15,.bool ok),(16,.int .i64 ((k2:Nat):Int)),(95,.bool false)]) (by kernel_rfl) ?_
        refine OD.nil ?_
        refine CD.condF rfl ?_
        refine CD.exit ?_
        refine CD.seq ?_
        refine CD.region ?_
        refine OD.runE 3 [6,7,12,14,15,109,110,111] (E':=[(6,.vI a),(7,.vI L),(12,.loc 2 0),(14,.int .i64 ((at_:Nat):Int)),(15,.bool ok),(109,.loc 2 0),(110,.vI L),(111,.int .i64 ((at_:Nat):Int))]) (by kernel_rfl) ?_
        have hends:=XAD hrow hne has hnb (i:=at_) (by omega) (hK.fin hne (by omega) (by first | omega | (right;assumption)))
        have hge:=XC2 (.mk k set no kids mn mx) (X0x K14 (.mk k set no kids mn mx)).1 (X0x K14 (.mk k set no kids mn mx)).2 n1 ((wp K14 20001 (.mk k set no kids mn mx):Nat):Int) L ((at_:Nat):Int) hall rfl (X6e hf) hn1 (by omega) (by omega)
        rw [hends]at hge
        cases ok with
        | false =>
         refine OD.runE 0 [6,7,12,14,15,109,110,111] (E':=[(6,.vI a),(7,.vI L),(12,.loc 2 0),(14,.int .i64 ((at_:Nat):Int)),(15,.bool false),(109,.loc 2 0),(110,.vI L),(111,.int .i64 ((at_:Nat):Int))]) (by kernel_rfl) ?_
         refine OD.callO [2] (ds:=[.loc 2 0,.vI L,.int .i64 ((at_:Nat):Int)]) (hge) rfl (by kernel_rfl) (by kernel_rfl) (by kernel_rfl) (by kernel_rfl) (by kernel_rfl) (fun r L1 hr=>?_)
         obtain⟨rfl,rfl⟩:=hr
         refine OD.runE 1 [6,7,12,14,15,17] (E':=[(6,.vI a),(7,.vI L),(12,.loc 2 0),(14,.int .i64 ((at_:Nat):Int)),(15,.bool false),(17,.sl 1 0 ([]))]) (by kernel_rfl) ?_
         refine OD.nil ?_
         refine CD.seq ?_
         refine CD.region ?_
         refine OD.runE 3 [6,7,12,14,15,17,114,115] (E':=[(6,.vI a),(7,.vI L),(12,.loc 2 0),(14,.int .i64 ((at_:Nat):Int)),(15,.bool false),(17,.sl 1 0 ([])),(114,.int .i64 0),(115,.bool false)]) (by kernel_rfl) ?_
         refine OD.callE (XDR) rfl (by kernel_rfl) (by kernel_rfl) (by kernel_rfl) ?_
         refine OD.runE 14 [6,7,12,14,130] (E':=[(6,.vI a),(7,.vI L),(12,.loc 2 0),(14,.int .i64 ((at_:Nat):Int)),(130,.bool false)]) (by kernel_rfl) ?_
         refine OD.nil ?_
         refine CD.condF rfl ?_
         refine CD.skip ?_
         refine CD.region ?_
         refine OD.runE 2 [6,7,12,81] (E':=[(6,.vI a),(7,.vI L),(12,.loc 2 0),(81,.int .i64 (X05 .i64 (((at_:Nat):Int)+1)))]) (by kernel_rfl) ?_
         refine OD.is 81 rfl (wrn (m:=at_+1) (by omega) (by omega)) ?_
         refine OD.runE 1 [6,7,12,14] (E':=[(6,.vI a),(7,.vI L),(12,.loc 2 0),(14,.int .i64 ((at_+1:Nat):Int))]) (by kernel_rfl) ?_
         refine OD.nil ?_
         exact⟨_,by omega,at_+1,(by kernel_rfl),by omega,rfl⟩
        | true =>
         refine OD.runE 0 [6,7,12,14,15,109,110,111] (E':=[(6,.vI a),(7,.vI L),(12,.loc 2 0),(14,.int .i64 ((at_:Nat):Int)),(15,.bool true),(109,.loc 2 0),(110,.vI L),(111,.int .i64 ((at_:Nat):Int))]) (by kernel_rfl) ?_
         refine OD.callO [2] (ds:=[.loc 2 0,.vI L,.int .i64 ((at_:Nat):Int)]) (hge) rfl (by kernel_rfl) (by kernel_rfl) (by kernel_rfl) (by kernel_rfl) (by kernel_rfl) (fun r L1 hr=>?_)
         obtain⟨rfl,rfl⟩:=hr
         refine OD.runE 1 [6,7,12,14,15,17] (E':=[(6,.vI a),(7,.vI L),(12,.loc 2 0),(14,.int .i64 ((at_:Nat):Int)),(15,.bool true),(17,.sl 1 1 (([at_+a.length]).map X0e))]) (by kernel_rfl) ?_
         refine OD.nil ?_
         refine CD.seq ?_
         refine CD.region ?_
         refine OD.runE 3 [6,7,12,14,15,17,114,115] (E':=[(6,.vI a),(7,.vI L),(12,.loc 2 0),(14,.int .i64 ((at_:Nat):Int)),(15,.bool true),(17,.sl 1 1 (([at_+a.length]).map X0e)),(114,.int .i64 1),(115,.bool true)]) (by kernel_rfl) ?_
         refine OD.callE (XDS) rfl (by kernel_rfl) (by kernel_rfl) (by kernel_rfl) ?_
         refine OD.runE 5 [6,7,12,14,118,120,121] (E':=[(6,.vI a),(7,.vI L),(12,.loc 2 0),(14,.int .i64 ((at_:Nat):Int)),(118,.bool false),(120,.bool true),(121,.sl 1 1 (([at_+a.length]).map X0e))]) (by kernel_rfl) ?_
         refine OD.guard rfl rfl ?_
         refine OD.idxSV (i:=0) rfl rfl (by kernel_rfl) (by omega) (by omega) ?_
         refine OD.runE 0 [6,7,12,14,118,120,122] (E':=[(6,.vI a),(7,.vI L),(12,.loc 2 0),(14,.int .i64 ((at_:Nat):Int)),(118,.bool false),(120,.bool true),(122,.ep 1 1 (([at_+a.length]).map X0e) 0)]) (by kernel_rfl) ?_
         refine OD.guard rfl rfl ?_
         refine OD.ldSV 0 (f:=X0e) (xs:=([at_+a.length])) rfl (by kernel_rfl) (by first | omega | (simp only [List.length_set,List.length_replicate,List.length_append,List.length_singleton,List.length_cons,List.length_nil];omega)) ?_
         refine OD.runE 4 [6,7,12,14,118,120,123,127] (E':=[(6,.vI a),(7,.vI L),(12,.loc 2 0),(14,.int .i64 ((at_:Nat):Int)),(118,.bool false),(120,.bool true),(123,.int .i64 (((([at_+a.length]).getD 0 0):Nat):Int)),(127,.int .i64 (X05 .i64 (((at_:Nat):Int)+((a.length:Nat):Int))))]) (by kernel_rfl) ?_
         refine OD.is 127 rfl (wrn (m:=at_+a.length) (by omega) (by omega)) ?_
         refine OD.runE 3 [6,7,12,14,130] (E':=[(6,.vI a),(7,.vI L),(12,.loc 2 0),(14,.int .i64 ((at_:Nat):Int)),(130,.bool (decide (¬ ((((([at_+a.length]).getD 0 0):Nat):Int):Int)=((at_+a.length:Nat):Int))))]) (by kernel_rfl) ?_
         refine OD.nil ?_
         refine CD.condP rfl (fun h11=>?_) (fun h11=>?_)
         ·
          refine CD.seq ?_
          refine CD.region ?_
          refine OD.runE 1 [4] (E':=[(4,.bool false)]) (by kernel_rfl) ?_
          refine OD.nil ?_
          refine CD.ret ?_
          exact X6O (by kernel_rfl) (by kernel_rfl) (r:=.bool false) (by first | rfl | (exfalso;omega) | exact absurd rfl h11 | (exfalso;rcases ‹_∨_› with h | h<;>first | omega | (exact hne (List.length_eq_zero_iff.1 (by omega)))) | exact congrArg D.bool (decide_eq_true rfl))
         ·
          refine CD.skip ?_
          refine CD.region ?_
          refine OD.runE 2 [6,7,12,81] (E':=[(6,.vI a),(7,.vI L),(12,.loc 2 0),(81,.int .i64 (X05 .i64 (((at_:Nat):Int)+1)))]) (by kernel_rfl) ?_
          refine OD.is 81 rfl (wrn (m:=at_+1) (by omega) (by omega)) ?_
          refine OD.runE 1 [6,7,12,14] (E':=[(6,.vI a),(7,.vI L),(12,.loc 2 0),(14,.int .i64 ((at_+1:Nat):Int))]) (by kernel_rfl) ?_
          refine OD.nil ?_
          exact⟨_,by omega,at_+1,(by kernel_rfl),by omega,rfl⟩
      ·
       refine CD.exit ?_
       refine CD.seq ?_
       refine CD.region ?_
       refine OD.runE 1 [4] (E':=[(4,.bool true)]) (by kernel_rfl) ?_
       refine OD.nil ?_
       refine CD.ret ?_
       exact X6O (by kernel_rfl) (by kernel_rfl) (r:=.bool true) (rfl)
     ·
      refine OD.runE 5 [6,7,11,12,13] (E':=[(6,.vI a),(7,.vI b),(11,.int .i64 0),(12,.lit (.pointer none)),(13,.int .i64 3)]) (by kernel_rfl) ?_
      refine OD.nil ?_
      refine CD.seq ?_
      refine CD.seq ?_
      refine CD.region ?_
      refine OD.runE 6 [6,7,12,69] (E':=[(6,.vI a),(7,.vI b),(12,.lit (.pointer none)),(69,.bool true)]) (by kernel_rfl) ?_
      refine OD.nil ?_
      refine CD.condT rfl ?_
      refine CD.seq ?_
      refine CD.region ?_
      refine OD.runE 1 [4] (E':=[(4,.bool false)]) (by kernel_rfl) ?_
      refine OD.nil ?_
      refine CD.ret ?_
      exact X6O (by kernel_rfl) (by kernel_rfl) (r:=.bool false) (by first | rfl | (exfalso;omega) | exact absurd rfl hc1 | (exfalso;rcases ‹_∨_› with h | h<;>first | omega | (exact hne (List.length_eq_zero_iff.1 (by omega)))) | exact congrArg D.bool (decide_eq_true rfl))
     ·
      refine OD.runE 5 [6,7,11,12,13] (E':=[(6,.vI a),(7,.vI b),(11,.int .i64 0),(12,.lit (.pointer none)),(13,.int .i64 5)]) (by kernel_rfl) ?_
      refine OD.nil ?_
      refine CD.seq ?_
      refine CD.seq ?_
      refine CD.region ?_
      refine OD.runE 6 [6,7,12,69] (E':=[(6,.vI a),(7,.vI b),(12,.lit (.pointer none)),(69,.bool true)]) (by kernel_rfl) ?_
      refine OD.nil ?_
      refine CD.condT rfl ?_
      refine CD.seq ?_
      refine CD.region ?_
      refine OD.runE 1 [4] (E':=[(4,.bool false)]) (by kernel_rfl) ?_
      refine OD.nil ?_
      refine CD.ret ?_
      exact X6O (by kernel_rfl) (by kernel_rfl) (r:=.bool false) (by first | rfl | (exfalso;omega) | exact absurd rfl hc1 | (exfalso;rcases ‹_∨_› with h | h<;>first | omega | (exact hne (List.length_eq_zero_iff.1 (by omega)))) | exact congrArg D.bool (decide_eq_true rfl))
end
end Go.Proofs.YtiebldaihnbkmaaGreatDoor

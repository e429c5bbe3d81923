/-
  What is proved here: what functions of the pattern's package come to (walks that a program of mine has printed). No conditions.
-/
import Derived.Test.YtiebldaihnbkmaaGreatDoorNM
import Derived.Test.YtiebldaihnbkmaaGreatDoorNI
import Derived.Test.YtiebldaihnbkmaaGreatDoorRJ
import Derived.Test.YtiebldaihnbkmaaGreatDoorRI
set_option linter.unusedVariables false
set_option linter.unusedSimpArgs false
set_option maxRecDepth 100000
set_option maxHeartbeats 4000000
namespace Go.Proofs.YtiebldaihnbkmaaGreatDoor
open Go.Vai Go.Nfa
noncomputable section
theorem X7z (S:List Sta) (l:List Int) (at_ n nn0 s:Nat) (first sz:Int) (X0:Nat→Prop) (seen0:List Int) (now0:List Nat) (hT:Tgt S) (hSn:S.length=n) (hSb:n≤1000000) (hat:at_≤l.length) (hlb:l.length<10000000) (hX:Nfa.Ent S l.length at_ X0 seen0 now0 []) (hs:s<S.length) (hle:∀ (t:Nat) v,seen0[t]?=some v→v≤(at_:Int)+1) (hnb0:now0.length+unm at_ seen0≤S.length) (hnn0:now0.length=nn0):FnD P ov 49 [.loc 0 0,.i64 s] [.box [.loc 1 0,.sl 1 l.length (l.map (D.int .i32)),.i64 at_,.row 2 0 n n,.row 3 0 nn0 nn0],.box [.sl 9 n (S.flatMap X03),.i64 first,.i64 sz],.row 1 n (seen0.map (D.int .i64)),.row 1 nn0 (now0.map X0e)] (entQ S l at_ n first sz X0 s seen0):=by
 refine FnD.intro (by kernel_rfl) (fn:=Tryz.f49) (by kernel_rfl) rfl (by kernel_rfl) fun M a0 g0 hg0=>?_
 refine CD.seq (CD.region ?_)
 refine OD.rE 1 [(0,.loc 0 0),(7,.i64 s)] ?_
 refine OD.bslR (e:=1) (cs:=[.i64 s]) rfl (by kernel_rfl) ?_
 refine OD.rE 1 [(0,.loc 0 0),(4,.row 4 0 1 1)] ?_
 refine OD.nil (CD.block ?_)
 refine CD.weak [0,4] 5 (E':=[(0,.loc 0 0),(4,.row 4 0 1 1)]) (by kernel_rfl) (by simp [hg0]) (by kernel_rfl) ?_
 refine CD.loop (fun m σ=>∃ (seen:List Int) (now:List Nat) (todo:List Nat) (rest:List Nat) (q:Nat) (c:Nat) (nn:Nat),σ=⟨[(0,.loc 0 0),(4,.row 4 0 q c)],[.box [.loc 1 0,.vI l,.i64 at_,.row 2 0 n n,.row 3 0 nn nn],.box [.sl 9 n (S.flatMap X03),.i64 first,.i64 sz],.row 1 n (seen.map (D.int .i64)),.row 1 nn (now.map X0e),.row 1 c ((todo++rest).map X0e)]⟩∧(EI S l.length at_ X0 s seen0 seen now todo)∧(todo.length=q)∧((todo++rest).length=c)∧(now.length=nn)∧(seen.length=n)∧m=2*unm at_ seen+q) (fun m σ hI=>?_) _ ⟨seen0,now0,[s],([]:List Nat),1,1,nn0,(by kernel_rfl),EI.first hX hs hle hnb0,rfl,rfl,hnn0,hX.sz.trans hSn,rfl⟩
 obtain⟨seen,now,todo,rest,q,c,nn,e,hE,hq,hc,hnn,hsl,hm⟩:=hI
 subst e hm
 have hbd:=hE.bd
 have hnb:=hE.nb
 refine CD.seq (CD.seq (CD.region ?_))
 refine OD.rE 3 [(0,.loc 0 0),(4,.row 4 0 q c),(11,.bool (decide ((0:Int)<((q:Nat):Int))))] ?_
 refine OD.nil ?_
 refine CD.condP rfl (fun h1=>?_) (fun h1=>?_)
 ·
  obtain⟨td,x,htd,htl⟩:=XGF hq (by omega)
  have hE2:EI S l.length at_ X0 s seen0 seen now (td++[x]):=by rw [← htd];exact hE
  have hxl:x<S.length:=hE2.ent.in_ x (by simp)
  refine CD.skip (CD.block (CD.seq (CD.region ?_)))
  refine OD.rE 4 [(0,.loc 0 0),(4,.row 4 0 q c),(12,.row 4 0 q c),(15,.i64 (X05 .i64 (((q:Nat):Int) - 1)))] ?_
  refine OD.is 15 rfl (wrn (m:=q - 1) (by omega) (by omega)) ?_
  refine OD.rE 0 [(0,.loc 0 0),(4,.row 4 0 q c),(12,.row 4 0 q c),(15,.i64 ((q - 1:Nat):Int))] ?_
  refine OD.idxV (i:=(q - 1)) rfl rfl (by kernel_rfl) (by omega) (by omega) ?_
  refine OD.rE 0 [(0,.loc 0 0),(4,.row 4 0 q c),(16,.loc 4 (q - 1))] ?_
  refine OD.ldV 0 (f:=X0e) (xs:=(todo++rest)) rfl rfl (by kernel_rfl) (by first | omega | (simp<;>omega)) ?_
  refine OD.rE 1 [(0,.loc 0 0),(4,.row 4 0 q c),(5,.i64 ((((todo++rest).getD (q - 1) 0):Nat):Int))] ?_
  refine OD.is 5 rfl (XIJ htd htl) ?_
  refine OD.rE 0 [(0,.loc 0 0),(4,.row 4 0 q c),(5,.i64 x)] ?_
  refine OD.nil (CD.seq (CD.region ?_))
  refine OD.rE 4 [(0,.loc 0 0),(5,.i64 x),(18,.row 4 0 q c),(21,.i64 (X05 .i64 (((q:Nat):Int) - 1)))] ?_
  refine OD.is 21 rfl (wrn (m:=q - 1) (by omega) (by omega)) ?_
  refine OD.rE 0 [(0,.loc 0 0),(5,.i64 x),(18,.row 4 0 q c),(21,.i64 ((q - 1:Nat):Int))] ?_
  refine OD.slR (lw:=0) (u:=q - 1) rfl rfl (by kernel_rfl) (.inl ⟨rfl,rfl⟩) (.inr ⟨_,_,rfl,rfl⟩) (Nat.zero_le _) (by have:=hc;rw [List.length_append]at this;omega) (by omega) ?_
  refine OD.rE 1 [(0,.loc 0 0),(4,.row 4 0 (q - 1) c),(5,.i64 x)] ?_
  refine OD.rowIs 4 rfl (XGG htd) ?_
  refine OD.rE 0 [(0,.loc 0 0),(4,.row 4 0 (q - 1) c),(5,.i64 x)] ?_
  refine OD.nil (CD.seq (CD.seq ?_))
  refine CD.drawn (by kernel_rfl) ?_
  refine OD.rE 5 [(0,.loc 0 0),(4,.row 4 0 (q - 1) c),(5,.i64 x),(26,.row 2 0 n n),(27,.i64 x)] ?_
  refine OD.idxV (i:=x) rfl rfl (by kernel_rfl) (by omega) (by omega) ?_
  refine OD.rE 0 [(0,.loc 0 0),(4,.row 4 0 (q - 1) c),(5,.i64 x),(28,.loc 2 x)] ?_
  refine OD.ldV 0 (f:=(D.int .i64)) (xs:=seen) rfl rfl (by kernel_rfl) (by first | omega | (simp<;>omega)) ?_
  refine OD.rE 5 [(0,.loc 0 0),(4,.row 4 0 (q - 1) c),(5,.i64 x),(29,.i64 (seen.getD x 0)),(34,.i64 (X05 .i64 (((at_:Nat):Int)+1)))] ?_
  refine OD.is 34 rfl (wrn (m:=at_+1) (by omega) (by omega)) ?_
  refine OD.rE 1 [(0,.loc 0 0),(4,.row 4 0 (q - 1) c),(5,.i64 x),(35,.bool (decide (((seen.getD x 0):Int)=((at_+1:Nat):Int))))] ?_
  refine OD.nil ⟨by kernel_rfl,?_⟩
  refine CD.condP rfl (fun h2=>?_) (fun h2=>?_)
  ·
   refine CD.weak [0,4] 5 (E':=[(0,.loc 0 0),(4,.row 4 0 (q - 1) c)]) (by kernel_rfl) (by simp [hg0]) (by kernel_rfl) ?_
   refine CD.exit ?_
   exact⟨_,by omega,seen,now,td,([x]++rest),(q - 1),c,nn,(by kernel_rfl),EI.skip hE2 (by omega),by omega,by rw [← hc,htd,List.append_assoc],hnn,hsl,rfl⟩
  ·
   refine CD.skip (CD.seq ?_)
   refine CD.drawn (by kernel_rfl) ?_
   refine OD.rE 10 [(0,.loc 0 0),(4,.row 4 0 (q - 1) c),(5,.i64 x),(39,.row 2 0 n n),(40,.i64 x),(45,.i64 (X05 .i64 (((at_:Nat):Int)+1)))] ?_
   refine OD.is 45 rfl (wrn (m:=at_+1) (by omega) (by omega)) ?_
   refine OD.is 45 rfl (congrArg (D.int .i64) (show((at_+1:Nat):Int)=((at_:Nat):Int)+1 by omega)) ?_
   refine OD.rE 0 [(0,.loc 0 0),(4,.row 4 0 (q - 1) c),(5,.i64 x),(39,.row 2 0 n n),(40,.i64 x),(45,.i64 (((at_:Nat):Int)+1))] ?_
   refine OD.idxV (i:=x) rfl rfl (by kernel_rfl) (by omega) (by omega) ?_
   refine OD.rE 0 [(0,.loc 0 0),(4,.row 4 0 (q - 1) c),(5,.i64 x),(45,.i64 (((at_:Nat):Int)+1)),(46,.loc 2 x)] ?_
   refine OD.stV (D.int .i64) (((at_:Nat):Int)+1) (xs:=seen) rfl rfl rfl rfl rfl (by kernel_rfl) (by first | omega | (simp<;>omega)) ?_
   refine OD.rE 0 [(0,.loc 0 0),(4,.row 4 0 (q - 1) c),(5,.i64 x)] ?_
   refine OD.nil ⟨by kernel_rfl,?_⟩
   refine CD.seq (CD.region ?_)
   refine OD.rE 8 [(0,.loc 0 0),(4,.row 4 0 (q - 1) c),(5,.i64 x),(53,.sl 9 n (S.flatMap X03)),(54,.i64 x)] ?_
   refine OD.idxSE (i:=x) (e:=9) rfl rfl (by kernel_rfl) (by omega) (by omega) ?_
   refine OD.rE 0 [(0,.loc 0 0),(4,.row 4 0 (q - 1) c),(5,.i64 x),(55,.ep 9 n (S.flatMap X03) (x*9))] ?_
   obtain⟨σ,hσ⟩:=XBy (S:=S) (x:=x) (by omega)
   cases σ with
   | takes set1 no1 y1 =>
    refine OD.ldA rfl (by kernel_rfl) (by kernel_rfl) (X0l X0Q hσ) rfl (by decide) ?_
    refine OD.rL 2 [(0,.loc 0 0),(4,.row 4 0 (q - 1) c),(5,.i64 x),(6,.loc 5 0)] [.box [.loc 1 0,.vI l,.i64 at_,.row 2 0 n n,.row 3 0 nn nn],.box [.sl 9 n (S.flatMap X03),.i64 first,.i64 sz],.row 1 n ((seen.set x (((at_:Nat):Int)+1)).map (D.int .i64)),.row 1 nn (now.map X0e),.row 1 c ((td++([x]++rest)).map X0e),.box [.i64 1,.i64 2,.sl 2 set1.length (set1.flatMap X0s),.bool no1,.sl 6 0 ([]),.i64 0,.i64 0,.i64 y1,.i64 0]] ?_
    refine OD.nil (CD.seq (CD.region ?_))
    refine OD.rE 2 [(0,.loc 0 0),(4,.row 4 0 (q - 1) c),(5,.i64 x),(6,.loc 5 0),(58,.i64 1)] ?_
    refine OD.nil (CD.block (CD.seq (CD.region ?_)))
    refine OD.rE 2 [(0,.loc 0 0),(4,.row 4 0 (q - 1) c),(5,.i64 x),(6,.loc 5 0),(58,.i64 1),(69,.bool false)] ?_
    refine OD.nil ?_
    refine CD.condF rfl ?_
    refine CD.seq (CD.region ?_)
    refine OD.rE 2 [(0,.loc 0 0),(4,.row 4 0 (q - 1) c),(5,.i64 x),(6,.loc 5 0),(58,.i64 1),(78,.bool false)] ?_
    refine OD.nil ?_
    refine CD.condF rfl ?_
    refine CD.seq (CD.region ?_)
    refine OD.rE 2 [(0,.loc 0 0),(4,.row 4 0 (q - 1) c),(5,.i64 x),(6,.loc 5 0),(90,.bool false)] ?_
    refine OD.nil ?_
    refine CD.condF rfl ?_
    refine CD.region ?_
    refine OD.rE 6 [(0,.loc 0 0),(4,.row 4 0 (q - 1) c),(59,.loc 0 0),(63,.row 3 0 nn nn),(64,.i64 x)] ?_
    refine OD.bsl (e:=1) (cs:=[.i64 x]) rfl (by kernel_rfl) ?_
    refine OD.rE 0 [(0,.loc 0 0),(4,.row 4 0 (q - 1) c),(59,.loc 0 0),(63,.row 3 0 nn nn),(65,.sl 1 1 [.i64 x])] ?_
    refine OD.appV (f:=X0e) (xs:=now) (vs:=[x]) rfl (by kernel_rfl) rfl rfl rfl rfl (by first | omega | (simp<;>omega)) (by decide) (by omega) ?_
    refine OD.rL 3 [(0,.loc 0 0),(4,.row 4 0 (q - 1) c)] [.box [.loc 1 0,.vI l,.i64 at_,.row 2 0 n n,.row 3 0 (nn+1) (nn+1)],.box [.sl 9 n (S.flatMap X03),.i64 first,.i64 sz],.row 1 n ((seen.set x (((at_:Nat):Int)+1)).map (D.int .i64)),.row 1 (nn+1) ((now++[x]).map X0e),.row 1 c ((td++([x]++rest)).map X0e),.box [.i64 1,.i64 2,.sl 2 set1.length (set1.flatMap X0s),.bool no1,.sl 6 0 ([]),.i64 0,.i64 0,.i64 y1,.i64 0]] ?_
    refine OD.nilW [0,4] 5 (E':=[(0,.loc 0 0),(4,.row 4 0 (q - 1) c)]) (by kernel_rfl) (by simp [hg0]) (by kernel_rfl) ?_
    have hgo:=EI.go (todo':=td) (now':=(now++[x])) hE2 hT (by omega) hσ (by simp [X2x]) rfl
    have hg2:=hgo.2.1
    have hg3:=hgo.2.2
    simp only [List.length_append,List.length_cons,List.length_nil]at hg2
    exact⟨_,by omega,(seen.set x (((at_:Nat):Int)+1)),(now++[x]),td,([x]++rest),(q - 1),c,nn+1,(by kernel_rfl),hgo.1,by omega,by rw [← hc,htd,List.append_assoc],by first | exact hnn | (rw [List.length_append,hnn];rfl),by rw [List.length_set];exact hsl,rfl⟩
   | splits y1 z1 =>
    refine OD.ldA rfl (by kernel_rfl) (by kernel_rfl) (X0l X0Q hσ) rfl (by decide) ?_
    refine OD.rL 2 [(0,.loc 0 0),(4,.row 4 0 (q - 1) c),(5,.i64 x),(6,.loc 5 0)] [.box [.loc 1 0,.vI l,.i64 at_,.row 2 0 n n,.row 3 0 nn nn],.box [.sl 9 n (S.flatMap X03),.i64 first,.i64 sz],.row 1 n ((seen.set x (((at_:Nat):Int)+1)).map (D.int .i64)),.row 1 nn (now.map X0e),.row 1 c ((td++([x]++rest)).map X0e),.box [.i64 2,.i64 0,.lit (.slice none 0 0),.bool false,.lit (.slice none 0 0),.i64 0,.i64 0,.i64 y1,.i64 z1]] ?_
    refine OD.nil (CD.seq (CD.region ?_))
    refine OD.rE 2 [(0,.loc 0 0),(4,.row 4 0 (q - 1) c),(5,.i64 x),(6,.loc 5 0),(58,.i64 2)] ?_
    refine OD.nil (CD.block (CD.seq (CD.region ?_)))
    refine OD.rE 2 [(0,.loc 0 0),(4,.row 4 0 (q - 1) c),(5,.i64 x),(6,.loc 5 0),(58,.i64 2),(69,.bool true)] ?_
    refine OD.nil ?_
    refine CD.condT rfl ?_
    refine CD.region ?_
    refine OD.rE 5 [(0,.loc 0 0),(71,.row 4 0 (q - 1) c),(73,.i64 z1),(75,.i64 y1)] ?_
    refine OD.bsl (e:=1) (cs:=[.i64 z1,.i64 y1]) rfl (by kernel_rfl) ?_
    refine OD.rE 0 [(0,.loc 0 0),(71,.row 4 0 (q - 1) c),(76,.sl 1 2 [.i64 z1,.i64 y1])] ?_
    refine OD.appT (f:=X0e) (xs:=td) (rest:=([x]++rest)) (vs:=[z1,y1]) rfl (by kernel_rfl) rfl rfl rfl rfl (by omega) (by rw [← hc,htd,List.append_assoc]) rfl (by decide) (by omega) (fun rest2 c2 hc2=>?_)
    refine OD.rE 1 [(0,.loc 0 0),(4,.row 4 0 ((q - 1)+2) c2)] ?_
    refine OD.nilW [0,4] 5 (E':=[(0,.loc 0 0),(4,.row 4 0 ((q - 1)+2) c2)]) (by kernel_rfl) (by simp [hg0]) (by kernel_rfl) ?_
    have hgo:=EI.go (todo':=(td++[z1,y1])) (now':=now) hE2 hT (by omega) hσ rfl rfl
    have hg2:=hgo.2.1
    have hg3:=hgo.2.2
    simp only [List.length_append,List.length_cons,List.length_nil]at hg2
    exact⟨_,by omega,(seen.set x (((at_:Nat):Int)+1)),now,(td++[z1,y1]),rest2,(q - 1)+2,c2,nn,(by kernel_rfl),hgo.1,by simp only [List.length_append,List.length_cons,List.length_nil];omega,hc2,by first | exact hnn | (rw [List.length_append,hnn];rfl),by rw [List.length_set];exact hsl,rfl⟩
   | begins y1 =>
    refine OD.ldA rfl (by kernel_rfl) (by kernel_rfl) (X0l X0Q hσ) rfl (by decide) ?_
    refine OD.rL 2 [(0,.loc 0 0),(4,.row 4 0 (q - 1) c),(5,.i64 x),(6,.loc 5 0)] [.box [.loc 1 0,.vI l,.i64 at_,.row 2 0 n n,.row 3 0 nn nn],.box [.sl 9 n (S.flatMap X03),.i64 first,.i64 sz],.row 1 n ((seen.set x (((at_:Nat):Int)+1)).map (D.int .i64)),.row 1 nn (now.map X0e),.row 1 c ((td++([x]++rest)).map X0e),.box [.i64 3,.i64 0,.lit (.slice none 0 0),.bool false,.lit (.slice none 0 0),.i64 0,.i64 0,.i64 y1,.i64 0]] ?_
    refine OD.nil (CD.seq (CD.region ?_))
    refine OD.rE 2 [(0,.loc 0 0),(4,.row 4 0 (q - 1) c),(5,.i64 x),(6,.loc 5 0),(58,.i64 3)] ?_
    refine OD.nil (CD.block (CD.seq (CD.region ?_)))
    refine OD.rE 2 [(0,.loc 0 0),(4,.row 4 0 (q - 1) c),(5,.i64 x),(6,.loc 5 0),(58,.i64 3),(69,.bool false)] ?_
    refine OD.nil ?_
    refine CD.condF rfl ?_
    refine CD.seq (CD.region ?_)
    refine OD.rE 2 [(0,.loc 0 0),(4,.row 4 0 (q - 1) c),(5,.i64 x),(6,.loc 5 0),(58,.i64 3),(78,.bool true)] ?_
    refine OD.nil ?_
    refine CD.condT rfl ?_
    refine CD.seq (CD.region ?_)
    refine OD.rE 5 [(0,.loc 0 0),(4,.row 4 0 (q - 1) c),(6,.loc 5 0),(84,.bool (decide ((((at_:Nat):Int):Int)=0)))] ?_
    refine OD.nil ?_
    refine CD.condP rfl (fun h3=>?_) (fun h3=>?_)
    ·
     refine CD.region ?_
     refine OD.rE 3 [(0,.loc 0 0),(85,.row 4 0 (q - 1) c),(87,.i64 y1)] ?_
     refine OD.bsl (e:=1) (cs:=[.i64 y1]) rfl (by kernel_rfl) ?_
     refine OD.rE 0 [(0,.loc 0 0),(85,.row 4 0 (q - 1) c),(88,.sl 1 1 [.i64 y1])] ?_
     refine OD.appT (f:=X0e) (xs:=td) (rest:=([x]++rest)) (vs:=[y1]) rfl (by kernel_rfl) rfl rfl rfl rfl (by omega) (by rw [← hc,htd,List.append_assoc]) rfl (by decide) (by omega) (fun rest2 c2 hc2=>?_)
     refine OD.rE 1 [(0,.loc 0 0),(4,.row 4 0 ((q - 1)+1) c2)] ?_
     refine OD.nilW [0,4] 5 (E':=[(0,.loc 0 0),(4,.row 4 0 ((q - 1)+1) c2)]) (by kernel_rfl) (by simp [hg0]) (by kernel_rfl) ?_
     have hgo:=EI.go (todo':=(td++[y1])) (now':=now) hE2 hT (by omega) hσ (by simp only [X2x];rw [if_pos (by omega)]) rfl
     have hg2:=hgo.2.1
     have hg3:=hgo.2.2
     simp only [List.length_append,List.length_cons,List.length_nil]at hg2
     exact⟨_,by omega,(seen.set x (((at_:Nat):Int)+1)),now,(td++[y1]),rest2,(q - 1)+1,c2,nn,(by kernel_rfl),hgo.1,by simp only [List.length_append,List.length_cons,List.length_nil];omega,hc2,by first | exact hnn | (rw [List.length_append,hnn];rfl),by rw [List.length_set];exact hsl,rfl⟩
    ·
     refine CD.weak [0,4] 5 (E':=[(0,.loc 0 0),(4,.row 4 0 (q - 1) c)]) (by kernel_rfl) (by simp [hg0]) (by kernel_rfl) ?_
     refine CD.skip ?_
     have hgo:=EI.go (todo':=td) (now':=now) hE2 hT (by omega) hσ (by simp only [X2x];rw [if_neg (by omega)];simp) rfl
     have hg2:=hgo.2.1
     have hg3:=hgo.2.2
     simp only [List.length_append,List.length_cons,List.length_nil]at hg2
     exact⟨_,by omega,(seen.set x (((at_:Nat):Int)+1)),now,td,([x]++rest),(q - 1),c,nn,(by kernel_rfl),hgo.1,by omega,by rw [← hc,htd,List.append_assoc],by first | exact hnn | (rw [List.length_append,hnn];rfl),by rw [List.length_set];exact hsl,rfl⟩
   | ends y1 =>
    refine OD.ldA rfl (by kernel_rfl) (by kernel_rfl) (X0l X0Q hσ) rfl (by decide) ?_
    refine OD.rL 2 [(0,.loc 0 0),(4,.row 4 0 (q - 1) c),(5,.i64 x),(6,.loc 5 0)] [.box [.loc 1 0,.vI l,.i64 at_,.row 2 0 n n,.row 3 0 nn nn],.box [.sl 9 n (S.flatMap X03),.i64 first,.i64 sz],.row 1 n ((seen.set x (((at_:Nat):Int)+1)).map (D.int .i64)),.row 1 nn (now.map X0e),.row 1 c ((td++([x]++rest)).map X0e),.box [.i64 4,.i64 0,.lit (.slice none 0 0),.bool false,.lit (.slice none 0 0),.i64 0,.i64 0,.i64 y1,.i64 0]] ?_
    refine OD.nil (CD.seq (CD.region ?_))
    refine OD.rE 2 [(0,.loc 0 0),(4,.row 4 0 (q - 1) c),(5,.i64 x),(6,.loc 5 0),(58,.i64 4)] ?_
    refine OD.nil (CD.block (CD.seq (CD.region ?_)))
    refine OD.rE 2 [(0,.loc 0 0),(4,.row 4 0 (q - 1) c),(5,.i64 x),(6,.loc 5 0),(58,.i64 4),(69,.bool false)] ?_
    refine OD.nil ?_
    refine CD.condF rfl ?_
    refine CD.seq (CD.region ?_)
    refine OD.rE 2 [(0,.loc 0 0),(4,.row 4 0 (q - 1) c),(5,.i64 x),(6,.loc 5 0),(58,.i64 4),(78,.bool false)] ?_
    refine OD.nil ?_
    refine CD.condF rfl ?_
    refine CD.seq (CD.region ?_)
    refine OD.rE 2 [(0,.loc 0 0),(4,.row 4 0 (q - 1) c),(5,.i64 x),(6,.loc 5 0),(90,.bool true)] ?_
    refine OD.nil ?_
    refine CD.condT rfl ?_
    refine CD.seq ?_
    refine CD.drawn (by kernel_rfl) ?_
    refine OD.rE 10 [(0,.loc 0 0),(4,.row 4 0 (q - 1) c),(6,.loc 5 0),(101,.bool (decide ((((at_:Nat):Int):Int)=((l.length:Nat):Int))))] ?_
    refine OD.nil ⟨by kernel_rfl,?_⟩
    refine CD.condP rfl (fun h4=>?_) (fun h4=>?_)
    ·
     refine CD.region ?_
     refine OD.rE 3 [(0,.loc 0 0),(102,.row 4 0 (q - 1) c),(104,.i64 y1)] ?_
     refine OD.bsl (e:=1) (cs:=[.i64 y1]) rfl (by kernel_rfl) ?_
     refine OD.rE 0 [(0,.loc 0 0),(102,.row 4 0 (q - 1) c),(105,.sl 1 1 [.i64 y1])] ?_
     refine OD.appT (f:=X0e) (xs:=td) (rest:=([x]++rest)) (vs:=[y1]) rfl (by kernel_rfl) rfl rfl rfl rfl (by omega) (by rw [← hc,htd,List.append_assoc]) rfl (by decide) (by omega) (fun rest2 c2 hc2=>?_)
     refine OD.rE 1 [(0,.loc 0 0),(4,.row 4 0 ((q - 1)+1) c2)] ?_
     refine OD.nilW [0,4] 5 (E':=[(0,.loc 0 0),(4,.row 4 0 ((q - 1)+1) c2)]) (by kernel_rfl) (by simp [hg0]) (by kernel_rfl) ?_
     have hgo:=EI.go (todo':=(td++[y1])) (now':=now) hE2 hT (by omega) hσ (by simp only [X2x];rw [if_pos (by omega)]) rfl
     have hg2:=hgo.2.1
     have hg3:=hgo.2.2
     simp only [List.length_append,List.length_cons,List.length_nil]at hg2
     exact⟨_,by omega,(seen.set x (((at_:Nat):Int)+1)),now,(td++[y1]),rest2,(q - 1)+1,c2,nn,(by kernel_rfl),hgo.1,by simp only [List.length_append,List.length_cons,List.length_nil];omega,hc2,by first | exact hnn | (rw [List.length_append,hnn];rfl),by rw [List.length_set];exact hsl,rfl⟩
    ·
     refine CD.weak [0,4] 5 (E':=[(0,.loc 0 0),(4,.row 4 0 (q - 1) c)]) (by kernel_rfl) (by simp [hg0]) (by kernel_rfl) ?_
     refine CD.skip ?_
     have hgo:=EI.go (todo':=td) (now':=now) hE2 hT (by omega) hσ (by simp only [X2x];rw [if_neg (by omega)];simp) rfl
     have hg2:=hgo.2.1
     have hg3:=hgo.2.2
     simp only [List.length_append,List.length_cons,List.length_nil]at hg2
     exact⟨_,by omega,(seen.set x (((at_:Nat):Int)+1)),now,td,([x]++rest),(q - 1),c,nn,(by kernel_rfl),hgo.1,by omega,by rw [← hc,htd,List.append_assoc],by first | exact hnn | (rw [List.length_append,hnn];rfl),by rw [List.length_set];exact hsl,rfl⟩
   | done  =>
    refine OD.ldA rfl (by kernel_rfl) (by kernel_rfl) (X0l X0Q hσ) rfl (by decide) ?_
    refine OD.rL 2 [(0,.loc 0 0),(4,.row 4 0 (q - 1) c),(5,.i64 x),(6,.loc 5 0)] [.box [.loc 1 0,.vI l,.i64 at_,.row 2 0 n n,.row 3 0 nn nn],.box [.sl 9 n (S.flatMap X03),.i64 first,.i64 sz],.row 1 n ((seen.set x (((at_:Nat):Int)+1)).map (D.int .i64)),.row 1 nn (now.map X0e),.row 1 c ((td++([x]++rest)).map X0e),.box [.i64 5,.i64 0,.lit (.slice none 0 0),.bool false,.lit (.slice none 0 0),.i64 0,.i64 0,.i64 0,.i64 0]] ?_
    refine OD.nil (CD.seq (CD.region ?_))
    refine OD.rE 2 [(0,.loc 0 0),(4,.row 4 0 (q - 1) c),(5,.i64 x),(6,.loc 5 0),(58,.i64 5)] ?_
    refine OD.nil (CD.block (CD.seq (CD.region ?_)))
    refine OD.rE 2 [(0,.loc 0 0),(4,.row 4 0 (q - 1) c),(5,.i64 x),(6,.loc 5 0),(58,.i64 5),(69,.bool false)] ?_
    refine OD.nil ?_
    refine CD.condF rfl ?_
    refine CD.seq (CD.region ?_)
    refine OD.rE 2 [(0,.loc 0 0),(4,.row 4 0 (q - 1) c),(5,.i64 x),(6,.loc 5 0),(58,.i64 5),(78,.bool false)] ?_
    refine OD.nil ?_
    refine CD.condF rfl ?_
    refine CD.seq (CD.region ?_)
    refine OD.rE 2 [(0,.loc 0 0),(4,.row 4 0 (q - 1) c),(5,.i64 x),(6,.loc 5 0),(90,.bool false)] ?_
    refine OD.nil ?_
    refine CD.condF rfl ?_
    refine CD.region ?_
    refine OD.rE 6 [(0,.loc 0 0),(4,.row 4 0 (q - 1) c),(59,.loc 0 0),(63,.row 3 0 nn nn),(64,.i64 x)] ?_
    refine OD.bsl (e:=1) (cs:=[.i64 x]) rfl (by kernel_rfl) ?_
    refine OD.rE 0 [(0,.loc 0 0),(4,.row 4 0 (q - 1) c),(59,.loc 0 0),(63,.row 3 0 nn nn),(65,.sl 1 1 [.i64 x])] ?_
    refine OD.appV (f:=X0e) (xs:=now) (vs:=[x]) rfl (by kernel_rfl) rfl rfl rfl rfl (by first | omega | (simp<;>omega)) (by decide) (by omega) ?_
    refine OD.rL 3 [(0,.loc 0 0),(4,.row 4 0 (q - 1) c)] [.box [.loc 1 0,.vI l,.i64 at_,.row 2 0 n n,.row 3 0 (nn+1) (nn+1)],.box [.sl 9 n (S.flatMap X03),.i64 first,.i64 sz],.row 1 n ((seen.set x (((at_:Nat):Int)+1)).map (D.int .i64)),.row 1 (nn+1) ((now++[x]).map X0e),.row 1 c ((td++([x]++rest)).map X0e),.box [.i64 5,.i64 0,.lit (.slice none 0 0),.bool false,.lit (.slice none 0 0),.i64 0,.i64 0,.i64 0,.i64 0]] ?_
    refine OD.nilW [0,4] 5 (E':=[(0,.loc 0 0),(4,.row 4 0 (q - 1) c)]) (by kernel_rfl) (by simp [hg0]) (by kernel_rfl) ?_
    have hgo:=EI.go (todo':=td) (now':=(now++[x])) hE2 hT (by omega) hσ (by simp [X2x]) rfl
    have hg2:=hgo.2.1
    have hg3:=hgo.2.2
    simp only [List.length_append,List.length_cons,List.length_nil]at hg2
    exact⟨_,by omega,(seen.set x (((at_:Nat):Int)+1)),(now++[x]),td,([x]++rest),(q - 1),c,nn+1,(by kernel_rfl),hgo.1,by omega,by rw [← hc,htd,List.append_assoc],by first | exact hnn | (rw [List.length_append,hnn];rfl),by rw [List.length_set];exact hsl,rfl⟩
 ·
  refine CD.exit ?_
  (try dsimp only);first | refine X01 ?_ | refine X02 ?_
  exact rO 4 (.tup []) [.box [.loc 1 0,.vI l,.i64 at_,.row 2 0 n n,.row 3 0 nn nn],.box [.sl 9 n (S.flatMap X03),.i64 first,.i64 sz],.row 1 n (seen.map (D.int .i64)),.row 1 nn (now.map X0e)] (XGE hE hq h1 hnn hsl)
end
end Go.Proofs.YtiebldaihnbkmaaGreatDoor

/-
  What is proved here: what functions of the stack come to (walks that a program of mine has printed). what functions of the stack come to (walks that a program of mine has printed). No conditions but those that the theorems state.
-/
import Derived.Test.YtmmmjbipgngamaaGreatDoorSKc
import Derived.Test.YtmmmjbipgngamaaGreatDoorSKa
set_option linter.unusedVariables false
set_option linter.unusedSimpArgs false
set_option maxRecDepth 100000
set_option maxHeartbeats 4000000
namespace Go.Proofs.YtmmmjbipgngamaaGreatDoor
open Go.Vai Go.RowKit
noncomputable section
theorem X9S (room:Int):FnD P ov 9 [.int .i64 room] [] (fun r L1=>r=.loc 0 0∧L1=[.box [.int .i64 (min (max room 1) 50),.int .i64 0,.row 1 0 0 0],.row 3 0 []]):=by
 refine FnD.intro (by kernel_rfl) (fn:=Tryz.f9) (by kernel_rfl) rfl (by kernel_rfl) fun M a0 g0 hg0=>?_
 refine CD.seq ?_
 refine CD.region ?_
 refine OD.runE 1 [0] (E':=[(0,.int .i64 room)]) (by kernel_rfl) ?_
 refine OD.nil ?_
 refine CD.seq ?_
 refine CD.region ?_
 refine OD.run 5 [7] (E':=[(7,.loc 0 0)]) (L':=[.box [.int .i64 (min (max (room:Int) 1:Int) 50),.int .i64 0,.lit (.slice none 0 0)]]) (by kernel_rfl) ?_
 refine OD.nilRowB 0 2 3 rfl rfl ?_
 refine OD.run 1 [2] (E':=[(2,.loc 0 0)]) (L':=[.box [.int .i64 (min (max (room:Int) 1:Int) 50),.int .i64 0,.row 1 0 0 0],.row 3 0 (([]:List X0A).flatMap X04)]) (by kernel_rfl) ?_
 refine OD.nil ?_
 refine CD.ret ?_
 first | refine X06 ?_ | refine X07 ?_ | (dsimp only;first | refine X06 ?_ | refine X07 ?_)
 refine X26 2 (r:=.loc 0 0) (L':=[.box [.int .i64 (min (max (room:Int) 1:Int) 50),.int .i64 0,.row 1 0 0 0],.row 3 0 (([]:List X0A).flatMap X04)]) (by kernel_rfl) ?_ ?_ (by kernel_rfl) (by kernel_rfl) ?_
 · exact Nat.le_of_ble_eq_true (by kernel_rfl)
 · exact Nat.le_of_ble_eq_true (by kernel_rfl)
 · exact⟨rfl,rfl⟩
theorem XEd (l rest:List X0A) (i:Nat) (hi:i<l.length) (hl:l.length+rest.length≤1000000):FnD P ov 35 [.row 0 0 l.length (l.length+rest.length),.int .i64 ((i:Nat):Int),.int .i64 ((i+1:Nat):Int)] [.row 3 (l.length+rest.length) ((l++rest).flatMap X04)] (fun r L1=>r=.row 0 0 (l.eraseIdx i).length ((l.eraseIdx i).length+(rest.length+1))∧L1=[.row 3 ((l.eraseIdx i).length+(rest.length+1)) ((l.eraseIdx i++(e0::rest)).flatMap X04)]):=by
 refine FnD.intro (by kernel_rfl) (fn:=Tryz.f35) (by kernel_rfl) rfl (by kernel_rfl) fun M a0 g0 hg0=>?_
 refine CD.seq ?_
 refine CD.region ?_
 refine OD.runE 1 [0,1,2] (E':=[(0,.row 0 0 l.length (l.length+rest.length)),(1,.int .i64 ((i:Nat):Int)),(2,.int .i64 ((i+1:Nat):Int))]) (by kernel_rfl) ?_
 refine OD.nil ?_
 refine CD.seq ?_
 refine CD.region ?_
 refine OD.runE 5 [0,1,2,8,9,10,12] (E':=[(0,.row 0 0 l.length (l.length+rest.length)),(1,.int .i64 ((i:Nat):Int)),(2,.int .i64 ((i+1:Nat):Int)),(8,.row 0 0 l.length (l.length+rest.length)),(9,.int .i64 ((i:Nat):Int)),(10,.int .i64 ((i+1:Nat):Int)),(12,.int .i64 ((l.length:Nat):Int))]) (by kernel_rfl) ?_
 refine OD.sl3R (lw:=i) (u:=(i+1)) (m:=l.length) rfl rfl (by kernel_rfl) rfl rfl rfl (by omega) (by omega) (by omega) (by omega) ?_
 refine OD.runE 0 [0,1,2] (E':=[(0,.row 0 0 l.length (l.length+rest.length)),(1,.int .i64 ((i:Nat):Int)),(2,.int .i64 ((i+1:Nat):Int))]) (by kernel_rfl) ?_
 refine OD.nil ?_
 refine CD.seq ?_
 refine CD.seq ?_
 refine CD.region ?_
 refine OD.runE 3 [0,1,2,16] (E':=[(0,.row 0 0 l.length (l.length+rest.length)),(1,.int .i64 ((i:Nat):Int)),(2,.int .i64 ((i+1:Nat):Int)),(16,.bool (decide ((((i:Nat):Int):Int)=((i+1:Nat):Int))))]) (by kernel_rfl) ?_
 refine OD.nil ?_
 refine CD.condP rfl (fun h1=>?_) (fun h1=>?_)
 ·
  refine CD.seq ?_
  exfalso;omega
 ·
  refine CD.skip ?_
  refine CD.seq ?_
  refine CD.region ?_
  refine OD.runE 3 [0,1,2,7] (E':=[(0,.row 0 0 l.length (l.length+rest.length)),(1,.int .i64 ((i:Nat):Int)),(2,.int .i64 ((i+1:Nat):Int)),(7,.int .i64 ((l.length:Nat):Int))]) (by kernel_rfl) ?_
  refine OD.nil ?_
  refine CD.seq ?_
  refine CD.drawn (by kernel_rfl) ?_
  refine OD.runE 2 [0,2,7,20,21] (E':=[(0,.row 0 0 l.length (l.length+rest.length)),(2,.int .i64 ((i+1:Nat):Int)),(7,.int .i64 ((l.length:Nat):Int)),(20,.row 0 0 l.length (l.length+rest.length)),(21,.int .i64 ((i:Nat):Int))]) (by kernel_rfl) ?_
  refine OD.slRc (lw:=0) (u:=i) rfl rfl (by kernel_rfl) (.inl ⟨rfl,rfl⟩) (.inr ⟨_,_,rfl,rfl⟩) (by omega) (by omega) (by omega) ?_
  refine OD.runE 2 [7,22,23,24] (E':=[(7,.int .i64 ((l.length:Nat):Int)),(22,.row 0 0 i (l.length+rest.length)),(23,.row 0 0 l.length (l.length+rest.length)),(24,.int .i64 ((i+1:Nat):Int))]) (by kernel_rfl) ?_
  refine OD.slRc (lw:=(i+1)) (u:=l.length) rfl rfl (by kernel_rfl) (.inr ⟨_,_,rfl,rfl⟩) (.inl ⟨rfl,rfl⟩) (by omega) (by omega) (by omega) ?_
  refine OD.runE 0 [7,22,25] (E':=[(7,.int .i64 ((l.length:Nat):Int)),(22,.row 0 0 i (l.length+rest.length)),(25,.row 0 (0+(i+1)*3) (l.length - (i+1)) ((l.length+rest.length) - (i+1)))]) (by kernel_rfl) ?_
  refine OD.appIR (e:=3) rfl (by kernel_rfl) rfl rfl rfl rfl (by rw [X1F,List.length_append];omega) rfl (Nat.le_refl _) (by omega) (by omega) (by omega) (by omega) ?_
  refine OD.rowIs 0 rfl (cs':=(l.eraseIdx i++(l.getD (l.length - 1) e0::rest)).flatMap X04) (by rw [Nat.zero_add];exact XAW hi) ?_
  refine OD.is 26 rfl (XBt (n':=l.length - 1) rfl (by omega) rfl) ?_
  refine OD.runE 1 [0,7] (E':=[(0,.row 0 0 (l.length - 1) (l.length+rest.length)),(7,.int .i64 ((l.length:Nat):Int))]) (by kernel_rfl) ?_
  refine OD.nil ⟨by kernel_rfl,?_⟩
  refine CD.seq ?_
  refine CD.region ?_
  refine OD.runE 4 [0,27,29,30] (E':=[(0,.row 0 0 (l.length - 1) (l.length+rest.length)),(27,.row 0 0 (l.length - 1) (l.length+rest.length)),(29,.int .i64 ((l.length - 1:Nat):Int)),(30,.int .i64 ((l.length:Nat):Int))]) (by kernel_rfl) ?_
  refine OD.slRc (lw:=(l.length - 1)) (u:=l.length) rfl rfl (by kernel_rfl) (.inr ⟨_,_,rfl,rfl⟩) (.inr ⟨_,_,rfl,rfl⟩) (by omega) (by omega) (by omega) ?_
  refine OD.is 31 rfl (XBt (o':=(l.length - 1)*3) (n':=1) (by omega) (by omega) rfl) ?_
  refine OD.runE 0 [0,31] (E':=[(0,.row 0 0 (l.length - 1) (l.length+rest.length)),(31,.row 0 ((l.length - 1)*3) 1 ((l.length+rest.length) - (l.length - 1)))]) (by kernel_rfl) ?_
  refine OD.clearR (t:=50) (e:=3) (zs:=[.str ByteArray.empty,.str ByteArray.empty,.bool false]) (by_:=40) rfl rfl (by kernel_rfl) rfl rfl (by decide) (by rw [X1F,List.length_append,List.length_cons,List.length_eraseIdx_of_lt hi];omega) ?_
  refine OD.rowIs 0 rfl (cs':=(l.eraseIdx i++(e0::rest)).flatMap X04) (XAX (by rw [List.length_eraseIdx_of_lt hi])) ?_
  refine OD.runE 0 [0] (E':=[(0,.row 0 0 (l.length - 1) (l.length+rest.length))]) (by kernel_rfl) ?_
  refine OD.nil ?_
  refine CD.seq ?_
  refine CD.region ?_
  refine OD.runE 2 [6] (E':=[(6,.row 0 0 (l.length - 1) (l.length+rest.length))]) (by kernel_rfl) ?_
  refine OD.nil ?_
  refine CD.ret ?_
  first | refine X06 ?_ | refine X07 ?_ | (dsimp only;first | refine X06 ?_ | refine X07 ?_)
  refine X26 1 (r:=.row 0 0 (l.length - 1) (l.length+rest.length)) (L':=[.row 3 (l.length+rest.length) ((l.eraseIdx i++(e0::rest)).flatMap X04)]) (by kernel_rfl) ?_ ?_ (by kernel_rfl) (by kernel_rfl) ?_
  · exact Nat.le_of_ble_eq_true (by kernel_rfl)
  · exact Nat.le_of_ble_eq_true (by kernel_rfl)
  · exact⟨by rw [List.length_eraseIdx_of_lt hi];exact XBt rfl rfl (by omega),by rw [List.length_eraseIdx_of_lt hi,show l.length - 1+(rest.length+1)=l.length+rest.length by omega]⟩
end
end Go.Proofs.YtmmmjbipgngamaaGreatDoor
set_option maxRecDepth 100000
set_option maxHeartbeats 4000000
namespace Go.Proofs.YtmmmjbipgngamaaGreatDoor
open Go.Vai Go.RowKit
noncomputable section
theorem XFp (room:Int) (n0:Nat) (l rest:List X0A) (text:ByteArray) (htx:¬ text=ByteArray.empty) (hroom:1≤room) (hl:l.length≤1000000) (hlr:l.length+rest.length≤900000) (hn:n0+l.length≤900000) (hau0:((X0G l true:Nat):Int)≤room):FnD P ov 12 [.loc 0 0,.str text] [.box [.int .i64 room,.int .i64 ((n0:Nat):Int),.row 1 0 l.length (l.length+rest.length)],.row 3 (l.length+rest.length) ((l++rest).flatMap X04)] (fun r L1=>∃ (k:Nat) (l2 r2:List X0A),X4H l n0 k∧EvR room ((bn k,text,true)::l) l2∧l2.length+r2.length≤l.length+1∧r=.str (bn k)∧L1=[.box [.int .i64 room,.int .i64 ((k+1:Nat):Int),.row 1 0 l2.length (l2.length+r2.length)],.row 3 (l2.length+r2.length) ((l2++r2).flatMap X04)]):=by
 have hau:∀ (nm:ByteArray),((X0G ((nm,text,true)::l) true:Nat):Int)≤room+1:=fun nm=>by rw [X0t,if_pos rfl];omega
 refine FnD.intro (by kernel_rfl) (fn:=Tryz.f12) (by kernel_rfl) rfl (by kernel_rfl) fun M a0 g0 hg0=>?_
 refine CD.seq ?_
 refine CD.region ?_
 refine OD.runE 1 [0,1] (E':=[(0,.loc 0 0),(1,.str text)]) (by kernel_rfl) ?_
 refine OD.nil ?_
 refine CD.seq ?_
 refine CD.seq ?_
 refine CD.region ?_
 refine OD.runE 4 [0,1,9,10] (E':=[(0,.loc 0 0),(1,.str text),(9,.bool false),(10,.str text)]) (by kernel_rfl) ?_
 refine OD.guard rfl rfl ?_
 refine OD.eqS rfl rfl ?_
 refine OD.runE 1 [0,1,12] (E':=[(0,.loc 0 0),(1,.str text),(12,.bool (decide (text=ByteArray.empty)))]) (by kernel_rfl) ?_
 refine OD.nil ?_
 refine CD.condP rfl (fun h1=>?_) (fun h1=>?_)
 ·
  refine CD.seq ?_
  exact(htx (by assumption)).elim
 ·
  refine CD.skip ?_
  refine CD.seq ?_
  refine CD.region ?_
  refine OD.runE 1 [0,1,5] (E':=[(0,.loc 0 0),(1,.str text),(5,.str ByteArray.empty)]) (by kernel_rfl) ?_
  refine OD.nil ?_
  refine CD.seq ?_
  refine CD.block ?_
  refine CD.weak [0,1,5] 2 (E':=[(0,.loc 0 0),(1,.str text),(5,.str ByteArray.empty)]) (by kernel_rfl) (by simp [hg0]) (by kernel_rfl) ?_
  refine CD.loop (fun m σ=>∃ (name:ByteArray) (nx:Nat),σ=⟨[(0,.loc 0 0),(1,.str text),(5,.str name)],[.box [.int .i64 room,.int .i64 ((nx:Nat):Int),.row 1 0 l.length (l.length+rest.length)],.row 3 (l.length+rest.length) ((l++rest).flatMap X04)]⟩∧(X5I l n0 name nx)∧m=X8y l name nx) (fun m σ hI=>?_) _ ⟨ByteArray.empty,n0,(by kernel_rfl),.inl ⟨rfl,rfl⟩,rfl⟩
  obtain⟨name,nx,e,hN,hm⟩:=hI
  subst e hm
  have hnb:=hN.bound
  refine CD.seq ?_
  refine CD.seq ?_
  refine CD.region ?_
  refine OD.runE 1 [0,1,5,13] (E':=[(0,.loc 0 0),(1,.str text),(5,.str name),(13,.str name)]) (by kernel_rfl) ?_
  refine OD.eqS rfl rfl ?_
  refine OD.runE 1 [0,1,5,15] (E':=[(0,.loc 0 0),(1,.str text),(5,.str name),(15,.bool (decide (name=ByteArray.empty)))]) (by kernel_rfl) ?_
  refine OD.ifP 15 rfl (fun h2=>?_) (fun h2=>?_)
  ·
   refine OD.runE 5 [0,1,5,20] (E':=[(0,.loc 0 0),(1,.str text),(5,.str name),(20,.bool true)]) (by kernel_rfl) ?_
   refine OD.nil ?_
   refine CD.condT rfl ?_
   refine CD.skip ?_
   refine CD.block ?_
   refine CD.seq ?_
   refine CD.region ?_
   refine OD.runE 4 [0,1,24] (E':=[(0,.loc 0 0),(1,.str text),(24,.int .i64 ((nx:Nat):Int))]) (by kernel_rfl) ?_
   refine OD.callE (XBv nx (by omega)) rfl (by kernel_rfl) (by kernel_rfl) (by kernel_rfl) ?_
   refine OD.runE 0 [0,1,25] (E':=[(0,.loc 0 0),(1,.str text),(25,.str (X3k nx))]) (by kernel_rfl) ?_
   refine OD.catS rfl rfl (XDd (by omega)) ?_
   refine OD.runE 1 [0,1,5] (E':=[(0,.loc 0 0),(1,.str text),(5,.str ((⟨#[98]⟩:ByteArray)++(X3k nx)))]) (by kernel_rfl) ?_
   refine OD.nil ?_
   refine CD.region ?_
   refine OD.runE 5 [0,1,5,27,31] (E':=[(0,.loc 0 0),(1,.str text),(5,.str ((⟨#[98]⟩:ByteArray)++(X3k nx))),(27,.loc 0 0),(31,.int .i64 (X0X .i64 (((nx:Nat):Int)+1)))]) (by kernel_rfl) ?_
   refine OD.is 31 rfl (wrn (m:=nx+1) (by omega) (by omega)) ?_
   refine OD.run 3 [0,1,5] (E':=[(0,.loc 0 0),(1,.str text),(5,.str ((⟨#[98]⟩:ByteArray)++(X3k nx)))]) (L':=[.box [.int .i64 room,.int .i64 ((nx+1:Nat):Int),.row 1 0 l.length (l.length+rest.length)],.row 3 (l.length+rest.length) ((l++rest).flatMap X04)]) (by kernel_rfl) ?_
   refine OD.nil ?_
   exact⟨_,by first | exact(hN.first (by assumption)).2 | exact(hN.next (by assumption) (by omega)).2,(bn nx),(nx+1),(by kernel_rfl),by first | exact(hN.first (by assumption)).1 | exact(hN.next (by assumption) (by omega)).1,rfl⟩
  ·
   refine OD.runE 2 [0,1,5,15,16,17] (E':=[(0,.loc 0 0),(1,.str text),(5,.str name),(15,.bool false),(16,.loc 0 0),(17,.str name)]) (by kernel_rfl) ?_
   refine OD.guard rfl rfl ?_
   refine OD.callFz (jb:=0) (jr:=1) (o:=0) (n:=l.length) (c:=l.length+rest.length) (e:=3) (N:=l.length+rest.length) (d0:=.int .i64 room) (d1:=.int .i64 ((nx:Nat):Int)) (cells:=(l++rest).flatMap X04) (rest:=[.str name]) (R:=fun r=>r=.int .i64 (X0I l name)) (by rw [X1N];exact X72 _ _ l name hl) rfl (by kernel_rfl) rfl rfl rfl rfl (by kernel_rfl) (X2t l rest) (by omega) (by kernel_rfl) (fun r hr=>by rw [hr];rfl) (fun r hr=>?_)
   subst hr
   refine OD.runE 2 [0,1,5,20] (E':=[(0,.loc 0 0),(1,.str text),(5,.str name),(20,.bool (decide ((0:Int)≤(X0I l name))))]) (by kernel_rfl) ?_
   refine OD.nil ?_
   refine CD.condP rfl (fun h3=>?_) (fun h3=>?_)
   ·
    refine CD.skip ?_
    refine CD.block ?_
    refine CD.seq ?_
    refine CD.region ?_
    refine OD.runE 4 [0,1,24] (E':=[(0,.loc 0 0),(1,.str text),(24,.int .i64 ((nx:Nat):Int))]) (by kernel_rfl) ?_
    refine OD.callE (XBv nx (by omega)) rfl (by kernel_rfl) (by kernel_rfl) (by kernel_rfl) ?_
    refine OD.runE 0 [0,1,25] (E':=[(0,.loc 0 0),(1,.str text),(25,.str (X3k nx))]) (by kernel_rfl) ?_
    refine OD.catS rfl rfl (XDd (by omega)) ?_
    refine OD.runE 1 [0,1,5] (E':=[(0,.loc 0 0),(1,.str text),(5,.str ((⟨#[98]⟩:ByteArray)++(X3k nx)))]) (by kernel_rfl) ?_
    refine OD.nil ?_
    refine CD.region ?_
    refine OD.runE 5 [0,1,5,27,31] (E':=[(0,.loc 0 0),(1,.str text),(5,.str ((⟨#[98]⟩:ByteArray)++(X3k nx))),(27,.loc 0 0),(31,.int .i64 (X0X .i64 (((nx:Nat):Int)+1)))]) (by kernel_rfl) ?_
    refine OD.is 31 rfl (wrn (m:=nx+1) (by omega) (by omega)) ?_
    refine OD.run 3 [0,1,5] (E':=[(0,.loc 0 0),(1,.str text),(5,.str ((⟨#[98]⟩:ByteArray)++(X3k nx)))]) (L':=[.box [.int .i64 room,.int .i64 ((nx+1:Nat):Int),.row 1 0 l.length (l.length+rest.length)],.row 3 (l.length+rest.length) ((l++rest).flatMap X04)]) (by kernel_rfl) ?_
    refine OD.nil ?_
    exact⟨_,by first | exact(hN.first (by assumption)).2 | exact(hN.next (by assumption) (by omega)).2,(bn nx),(nx+1),(by kernel_rfl),by first | exact(hN.first (by assumption)).1 | exact(hN.next (by assumption) (by omega)).1,rfl⟩
   ·
    refine CD.exit ?_
    refine CD.seq ?_
    refine CD.region ?_
    refine OD.runE 4 [0,5,34,37] (E':=[(0,.loc 0 0),(5,.str name),(34,.loc 0 0),(37,.agg [.str name,.str text,.bool true])]) (by kernel_rfl) ?_
    refine OD.bslR (e:=3) (cs:=[.str name,.str text,.bool true]) rfl (by kernel_rfl) ?_
    refine OD.runE 4 [0,5,34,38,42] (E':=[(0,.loc 0 0),(5,.str name),(34,.loc 0 0),(38,.row 2 0 1 1),(42,.row 1 0 l.length (l.length+rest.length))]) (by kernel_rfl) ?_
    refine OD.appFR (e:=3) (ds:=l.flatMap X04) rfl (by kernel_rfl) rfl rfl rfl rfl (X2t l rest) (X1N l rest) rfl (by decide) (by omega) (by omega) ?_
    refine OD.run 3 [0,5] (E':=[(0,.loc 0 0),(5,.str name)]) (L':=[.box [.int .i64 room,.int .i64 ((nx:Nat):Int),.row 2 0 (l.length+1) (l.length+1)],.row 3 (l.length+rest.length) ((l++rest).flatMap X04),.row 3 (l.length+1) ([.str name,.str text,.bool true]++l.flatMap X04)]) (by kernel_rfl) ?_
    refine OD.rowIs 2 rfl (cs':=(((name,text,true)::l)++[]).flatMap X04) (by rw [List.append_nil];rfl) ?_
    refine OD.swap 1 2 rfl rfl ?_
    refine OD.weak [0,5] 2 (E':=[(0,.loc 0 0),(5,.str name)]) (by kernel_rfl) (by simp [hg0]) (by kernel_rfl) ?_
    refine OD.run 0 [0,5] (E':=[(0,.loc 0 0),(5,.str name)]) (L':=[.box [.int .i64 room,.int .i64 ((nx:Nat):Int),.row 1 0 (l.length+1) (l.length+1)],.row 3 (l.length+1) ((((name,text,true)::l)++[]).flatMap X04)]) (by kernel_rfl) ?_
    refine OD.nil ?_
    refine CD.seq ?_
    refine CD.block ?_
    refine CD.weak [0,5] 2 (E':=[(0,.loc 0 0),(5,.str name)]) (by kernel_rfl) (by simp [hg0]) (by kernel_rfl) ?_
    refine CD.loop (fun m σ=>∃ (l2:List X0A) (r2:List X0A),σ=⟨[(0,.loc 0 0),(5,.str name)],[.box [.int .i64 room,.int .i64 ((nx:Nat):Int),.row 1 0 l2.length (l2.length+r2.length)],.row 3 (l2.length+r2.length) ((l2++r2).flatMap X04)]⟩∧(EvI room ((name,text,true)::l) l2)∧(l2.length+r2.length≤l.length+1)∧m=l2.length) (fun m σ hI=>?_) _ ⟨((name,text,true)::l),[],(by kernel_rfl),.inl rfl,by simp,rfl⟩
    obtain⟨l2,r2,e,hE,hz2,hm⟩:=hI
    subst e hm
    refine CD.seq ?_
    refine CD.seq ?_
    refine CD.drawnB [5] [(0,0)] (jb:=0) (jr:=1) (o:=0) (n:=l2.length) (c:=l2.length+r2.length) (e:=3) (N:=l2.length+r2.length) (d0:=.int .i64 room) (d1:=.int .i64 ((nx:Nat):Int)) (cells:=(l2++r2).flatMap X04) rfl rfl rfl rfl (X2t l2 r2) (by omega) (by kernel_rfl) (fun M1 a1 bx1 bq hbx=>?_)
    refine OD.runE 1 [0,5,46] (E':=[(0,X0s bq 0),(5,.str name),(46,X0s bq 0)]) (by kernel_rfl) ?_
    refine OD.litBx 46 hbx rfl rfl ?_
    refine OD.is 46 rfl (congrArg (fun cs=>D.bx [.int .i64 room,.int .i64 ((nx:Nat):Int),.sl 3 l2.length cs] 0) (X1N l2 r2)) ?_
    refine OD.callE (X73 room ((nx:Nat):Int) l2 true (by omega)) rfl (by kernel_rfl) (by kernel_rfl) (by kernel_rfl) ?_
    refine OD.runE 1 [0,5,47,48] (E':=[(0,X0s bq 0),(5,.str name),(47,.int .i64 ((X0G l2 true:Nat):Int)),(48,X0s bq 0)]) (by kernel_rfl) ?_
    refine OD.nckL rfl ?_
    refine OD.runE 0 [0,5,47,48,49] (E':=[(0,X0s bq 0),(5,.str name),(47,.int .i64 ((X0G l2 true:Nat):Int)),(48,X0s bq 0),(49,X0s bq 0)]) (by kernel_rfl) ?_
    refine OD.fadL (i:=0) (o:=0) (o1:=0) (b':=0) (x':=none) rfl (by kernel_rfl) ?_
    refine OD.runE 0 [0,5,47,48,49,50] (E':=[(0,X0s bq 0),(5,.str name),(47,.int .i64 ((X0G l2 true:Nat):Int)),(48,X0s bq 0),(49,X0s bq 0),(50,X0s bq 0)]) (by kernel_rfl) ?_
    refine OD.ldB (d:=.int .i64 room) hbx rfl (by kernel_rfl) rfl ?_
    refine OD.runE 1 [0,5,48,49,50,51,52] (E':=[(0,X0s bq 0),(5,.str name),(48,X0s bq 0),(49,X0s bq 0),(50,X0s bq 0),(51,.int .i64 room),(52,.bool (decide ((room:Int)<((X0G l2 true:Nat):Int))))]) (by kernel_rfl) ?_
    refine OD.nil ⟨by kernel_rfl,⟨⟨3,50,0,.int .i64 room,by kernel_rfl,rfl,by kernel_rfl⟩,trivial⟩,⟨rfl,trivial⟩,rfl,?_⟩
    refine CD.condP rfl (fun h4=>?_) (fun h4=>?_)
    ·
     have hal:=X7h l2 true
     obtain⟨ia,hia,hib⟩:=XAY (l:=l2) (b:=true) (by omega)
     refine CD.skip ?_
     refine CD.block ?_
     refine CD.seq ?_
     refine CD.region ?_
     refine OD.runE 6 [0,5,58] (E':=[(0,.loc 0 0),(5,.str name),(58,.int .i64 (X0X .i64 (((l2.length:Nat):Int) - 1)))]) (by kernel_rfl) ?_
     refine OD.is 58 rfl (wrn (m:=l2.length - 1) (by omega) (by omega)) ?_
     refine OD.runE 1 [0,5,6] (E':=[(0,.loc 0 0),(5,.str name),(6,.int .i64 ((l2.length - 1:Nat):Int))]) (by kernel_rfl) ?_
     refine OD.nil ?_
     refine CD.seq ?_
     refine CD.block ?_
     refine CD.weak [0,5,6] 2 (E':=[(0,.loc 0 0),(5,.str name),(6,.int .i64 ((l2.length - 1:Nat):Int))]) (by kernel_rfl) (by simp [hg0]) (by kernel_rfl) ?_
     refine CD.loop (fun m σ=>∃ (la:Nat),σ=⟨[(0,.loc 0 0),(5,.str name),(6,.int .i64 ((la:Nat):Int))],[.box [.int .i64 room,.int .i64 ((nx:Nat):Int),.row 1 0 l2.length (l2.length+r2.length)],.row 3 (l2.length+r2.length) ((l2++r2).flatMap X04)]⟩∧(la<l2.length)∧(∀ j,la<j→j<l2.length→(l2.getD j e0).2.2=false)∧m=2*la+1) (fun m σ hI=>?_) _ ⟨l2.length - 1,(by kernel_rfl),by omega,(fun j a b=>by omega),rfl⟩
     obtain⟨la,e,hla,hlt,hm⟩:=hI
     subst e hm
     refine CD.seq ?_
     refine CD.seq ?_
     refine CD.region ?_
     refine OD.runE 5 [0,5,6,62,63] (E':=[(0,.loc 0 0),(5,.str name),(6,.int .i64 ((la:Nat):Int)),(62,.row 1 0 l2.length (l2.length+r2.length)),(63,.int .i64 ((la:Nat):Int))]) (by kernel_rfl) ?_
     refine OD.idxE (i:=la) (e:=3) rfl rfl (by kernel_rfl) (by omega) (by omega) ?_
     refine OD.runE 1 [0,5,6,65] (E':=[(0,.loc 0 0),(5,.str name),(6,.int .i64 ((la:Nat):Int)),(65,.loc 1 (la*3+2))]) (by kernel_rfl) ?_
     refine OD.ldR (d:=.bool (l2.getD la e0).2.2) rfl rfl (by kernel_rfl) (X4W (k:=2) (by omega) (by decide) rfl) ?_
     refine OD.runE 1 [0,5,6,67] (E':=[(0,.loc 0 0),(5,.str name),(6,.int .i64 ((la:Nat):Int)),(67,.bool (!(l2.getD la e0).2.2))]) (by kernel_rfl) ?_
     refine OD.nil ?_
     refine CD.condB rfl (fun h5=>?_) (fun h5=>?_)
     ·
      have h5:=XES h5
      have hgt:=XFl hia hib hlt h5
      refine CD.skip ?_
      refine CD.block ?_
      refine CD.region ?_
      refine OD.runE 2 [0,5,69] (E':=[(0,.loc 0 0),(5,.str name),(69,.int .i64 (X0X .i64 (((la:Nat):Int) - 1)))]) (by kernel_rfl) ?_
      refine OD.is 69 rfl (wrn (m:=la - 1) (by omega) (by omega)) ?_
      refine OD.runE 1 [0,5,6] (E':=[(0,.loc 0 0),(5,.str name),(6,.int .i64 ((la - 1:Nat):Int))]) (by kernel_rfl) ?_
      refine OD.nil ?_
      exact⟨_,by omega,la - 1,(by kernel_rfl),by omega,XBu hlt (by assumption),rfl⟩
     ·
      have h5:=XDL h5
      refine CD.exit ?_
      refine CD.region ?_
      refine OD.runE 8 [0,5,70,74,75,77] (E':=[(0,.loc 0 0),(5,.str name),(70,.loc 0 0),(74,.row 1 0 l2.length (l2.length+r2.length)),(75,.int .i64 ((la:Nat):Int)),(77,.int .i64 (X0X .i64 (((la:Nat):Int)+1)))]) (by kernel_rfl) ?_
      refine OD.is 77 rfl (wrn (m:=la+1) (by omega) (by omega)) ?_
      refine OD.runE 0 [0,5,70,74,75,77] (E':=[(0,.loc 0 0),(5,.str name),(70,.loc 0 0),(74,.row 1 0 l2.length (l2.length+r2.length)),(75,.int .i64 ((la:Nat):Int)),(77,.int .i64 ((la+1:Nat):Int))]) (by kernel_rfl) ?_
      refine OD.callO [1] (ds:=[.row 1 0 l2.length (l2.length+r2.length),.int .i64 ((la:Nat):Int),.int .i64 ((la+1:Nat):Int)]) (XEd l2 r2 la (by omega) (by omega)) rfl (by kernel_rfl) (by kernel_rfl) (by kernel_rfl) (by kernel_rfl) (by kernel_rfl) (fun r L1 hr=>?_)
      obtain⟨rfl,rfl⟩:=hr
      refine OD.run 3 [0,5] (E':=[(0,.loc 0 0),(5,.str name)]) (L':=[.box [.int .i64 room,.int .i64 ((nx:Nat):Int),.row 1 0 ((l2.eraseIdx la).length) ((l2.eraseIdx la).length+(r2.length+1))],.row 3 ((l2.eraseIdx la).length+(r2.length+1)) ((l2.eraseIdx la++(e0::r2)).flatMap X04)]) (by kernel_rfl) ?_
      refine OD.nil ?_
      exact⟨_,by rw [List.length_eraseIdx_of_lt hla];omega,(l2.eraseIdx la),(e0::r2),(by kernel_rfl),hE.step (hau _) (by assumption) ⟨hla,(by first | assumption | exact XDL (by assumption)),hlt⟩,by rw [List.length_eraseIdx_of_lt hla,List.length_cons];omega,rfl⟩
    ·
     refine CD.exit ?_
     refine CD.seq ?_
     refine CD.region ?_
     refine OD.runE 2 [4] (E':=[(4,.str name)]) (by kernel_rfl) ?_
     refine OD.nil ?_
     refine CD.ret ?_
     first | refine X06 ?_ | refine X07 ?_ | (dsimp only;first | refine X06 ?_ | refine X07 ?_)
     refine X26 2 (r:=.str name) (L':=[.box [.int .i64 room,.int .i64 ((nx:Nat):Int),.row 1 0 l2.length (l2.length+r2.length)],.row 3 (l2.length+r2.length) ((l2++r2).flatMap X04)]) (by kernel_rfl) ?_ ?_ (by kernel_rfl) (by kernel_rfl) ?_
     · exact Nat.le_of_ble_eq_true (by kernel_rfl)
     · exact Nat.le_of_ble_eq_true (by kernel_rfl)
     · exact(by obtain⟨k,rfl,rfl,hk⟩:=hN.fin (by assumption) (by omega);exact⟨k,l2,r2,hk,hE.fin (hau _) (by assumption),hz2,rfl,rfl⟩)
end
end Go.Proofs.YtmmmjbipgngamaaGreatDoor

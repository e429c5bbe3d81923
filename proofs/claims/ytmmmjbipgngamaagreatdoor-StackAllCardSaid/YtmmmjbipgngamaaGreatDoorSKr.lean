/-
  What is proved here: Set and Drop as plain data. what functions of the stack come to (walks that a program of mine has printed). what functions of the stack come to (walks that a program of mine has printed). No conditions but those that the theorems state.
-/
import Derived.Test.YtmmmjbipgngamaaGreatDoorSKn
set_option linter.unusedVariables false
set_option linter.unusedSimpArgs false
namespace Go.Vai
noncomputable section
theorem X1k (l:List X0A) (name:ByteArray):X0I l name = -1∨∃ i:Nat,X0I l name=(i:Int)∧i<l.length:=by
 rcases X1Q l name with h | ⟨i,h1,h2,_⟩
 ·
  left
  unfold X0I at h ⊢
  split at h
  · omega
  · rfl
 · exact .inr ⟨i,h1,h2⟩
theorem X5J {l rest:List X0A} {i:Nat} {n t:ByteArray} {b:Bool} (hi:i<l.length):((l++rest).flatMap X04).take (i*3)++[.str n,.str t,.bool b]++((l++rest).flatMap X04).drop (i*3+[D.str n,.str t,.bool b].length)=(l.set i (n,t,b)++rest).flatMap X04:=by
 rw [show i*3+[D.str n,.str t,.bool b].length=(i+1)*3 by simp only [List.length_cons,List.length_nil];omega,X2Y,X39]
 have e:l.set i (n,t,b)++rest=(l++rest).take i++((n,t,b)::(l++rest).drop (i+1)):=by
  rw [List.take_append_of_le_length (by omega),List.drop_append_of_le_length (by omega),List.set_eq_take_append_cons_drop,if_pos hi,List.append_assoc,List.cons_append]
 rw [e,List.flatMap_append,List.flatMap_cons,List.append_assoc]
 rfl
def X15 (l:List X0A) (name:ByteArray):Bool×List X0A:=if X0I l name<0 then(false,l)else(true,l.eraseIdx (X0I l name).toNat)
def X7O (l:List X0A) (name text:ByteArray):List X0A:=if X0I l name<0 then(name,text,false)::l else l.set (X0I l name).toNat (name,text,false)
def X2O (l:List X0A) (name:ByteArray):Prop:=(X0I l name<0∨(l.getD (X0I l name).toNat e0).2.2=true)∧50≤X0G l false
end
end Go.Vai
set_option maxRecDepth 100000
set_option maxHeartbeats 4000000
namespace Go.Proofs.YtmmmjbipgngamaaGreatDoor
open Go.Vai Go.RowKit
noncomputable section
theorem XFr (room:Int) (nx:Nat) (l rest:List X0A) (name:ByteArray) (hl:l.length+rest.length≤900000):FnD P ov 16 [.loc 0 0,.str name] [.box [.int .i64 room,.int .i64 ((nx:Nat):Int),.row 1 0 l.length (l.length+rest.length)],.row 3 (l.length+rest.length) ((l++rest).flatMap X04)] (fun r L1=>∃ (r2:List X0A),r=.bool (X15 l name).1∧L1=[.box [.int .i64 room,.int .i64 ((nx:Nat):Int),.row 1 0 ((X15 l name).2.length) ((X15 l name).2.length+r2.length)],.row 3 ((X15 l name).2.length+r2.length) (((X15 l name).2++r2).flatMap X04)]∧(X15 l name).2.length+r2.length≤l.length+rest.length):=by
 refine FnD.intro (by kernel_rfl) (fn:=Tryz.f16) (by kernel_rfl) rfl (by kernel_rfl) fun M a0 g0 hg0=>?_
 refine CD.seq ?_
 refine CD.region ?_
 refine OD.runE 1 [0,1] (E':=[(0,.loc 0 0),(1,.str name)]) (by kernel_rfl) ?_
 refine OD.nil ?_
 refine CD.seq ?_
 refine CD.region ?_
 refine OD.runE 2 [0,6,7] (E':=[(0,.loc 0 0),(6,.loc 0 0),(7,.str name)]) (by kernel_rfl) ?_
 refine OD.callFz (jb:=0) (jr:=1) (o:=0) (n:=l.length) (c:=l.length+rest.length) (e:=3) (N:=l.length+rest.length) (d0:=.int .i64 room) (d1:=.int .i64 ((nx:Nat):Int)) (cells:=(l++rest).flatMap X04) (rest:=[.str name]) (R:=fun r=>r=.int .i64 (X0I l name)) (by rw [X1N];exact X72 _ _ l name (by omega)) rfl (by kernel_rfl) rfl rfl rfl rfl (by kernel_rfl) (X2t l rest) (by omega) (by kernel_rfl) (fun r hr=>by rw [hr];rfl) (fun r hr=>?_)
 subst hr
 rcases X1k l name with hfe | ⟨fi,hfe,hil⟩
 ·
  refine OD.is 8 rfl (congrArg (D.int .i64) hfe) ?_
  refine OD.runE 1 [0,5] (E':=[(0,.loc 0 0),(5,.int .i64 (-1))]) (by kernel_rfl) ?_
  refine OD.nil ?_
  refine CD.seq ?_
  refine CD.seq ?_
  refine CD.region ?_
  refine OD.runE 2 [0,5,10] (E':=[(0,.loc 0 0),(5,.int .i64 (-1)),(10,.bool true)]) (by kernel_rfl) ?_
  refine OD.nil ?_
  refine CD.condT rfl ?_
  refine CD.seq ?_
  refine CD.region ?_
  refine OD.runE 1 [4] (E':=[(4,.bool false)]) (by kernel_rfl) ?_
  refine OD.nil ?_
  refine CD.ret ?_
  first | refine X06 ?_ | refine X07 ?_ | (dsimp only;first | refine X06 ?_ | refine X07 ?_)
  refine X26 2 (r:=.bool false) (L':=[.box [.int .i64 room,.int .i64 ((nx:Nat):Int),.row 1 0 l.length (l.length+rest.length)],.row 3 (l.length+rest.length) ((l++rest).flatMap X04)]) (by kernel_rfl) ?_ ?_ (by kernel_rfl) (by kernel_rfl) ?_
  · exact Nat.le_of_ble_eq_true (by kernel_rfl)
  · exact Nat.le_of_ble_eq_true (by kernel_rfl)
  · exact(by first | (exfalso;omega) | (have hd:X15 l name=(false,l):=(by unfold X15;rw [hfe,if_pos (by omega)]);rw [hd];exact⟨rest,rfl,rfl,Nat.le_refl _⟩))
 ·
  refine OD.is 8 rfl (congrArg (D.int .i64) hfe) ?_
  refine OD.runE 1 [0,5] (E':=[(0,.loc 0 0),(5,.int .i64 ((fi:Nat):Int))]) (by kernel_rfl) ?_
  refine OD.nil ?_
  refine CD.seq ?_
  refine CD.seq ?_
  refine CD.region ?_
  refine OD.runE 2 [0,5,10] (E':=[(0,.loc 0 0),(5,.int .i64 ((fi:Nat):Int)),(10,.bool (decide ((((fi:Nat):Int):Int)<0)))]) (by kernel_rfl) ?_
  refine OD.nil ?_
  refine CD.condP rfl (fun h1=>?_) (fun h1=>?_)
  ·
   refine CD.seq ?_
   refine CD.region ?_
   refine OD.runE 1 [4] (E':=[(4,.bool false)]) (by kernel_rfl) ?_
   refine OD.nil ?_
   refine CD.ret ?_
   first | refine X06 ?_ | refine X07 ?_ | (dsimp only;first | refine X06 ?_ | refine X07 ?_)
   refine X26 2 (r:=.bool false) (L':=[.box [.int .i64 room,.int .i64 ((nx:Nat):Int),.row 1 0 l.length (l.length+rest.length)],.row 3 (l.length+rest.length) ((l++rest).flatMap X04)]) (by kernel_rfl) ?_ ?_ (by kernel_rfl) (by kernel_rfl) ?_
   · exact Nat.le_of_ble_eq_true (by kernel_rfl)
   · exact Nat.le_of_ble_eq_true (by kernel_rfl)
   · exact(by first | (exfalso;omega) | (have hd:X15 l name=(false,l):=(by unfold X15;rw [hfe,if_pos (by omega)]);rw [hd];exact⟨rest,rfl,rfl,Nat.le_refl _⟩))
  ·
   refine CD.skip ?_
   refine CD.seq ?_
   refine CD.region ?_
   refine OD.runE 8 [11,15,16,18] (E':=[(11,.loc 0 0),(15,.row 1 0 l.length (l.length+rest.length)),(16,.int .i64 ((fi:Nat):Int)),(18,.int .i64 (X0X .i64 (((fi:Nat):Int)+1)))]) (by kernel_rfl) ?_
   refine OD.is 18 rfl (wrn (m:=fi+1) (by omega) (by omega)) ?_
   refine OD.runE 0 [11,15,16,18] (E':=[(11,.loc 0 0),(15,.row 1 0 l.length (l.length+rest.length)),(16,.int .i64 ((fi:Nat):Int)),(18,.int .i64 ((fi+1:Nat):Int))]) (by kernel_rfl) ?_
   refine OD.callO [1] (ds:=[.row 1 0 l.length (l.length+rest.length),.int .i64 ((fi:Nat):Int),.int .i64 ((fi+1:Nat):Int)]) (XEd l rest fi hil (by omega)) rfl (by kernel_rfl) (by kernel_rfl) (by kernel_rfl) (by kernel_rfl) (by kernel_rfl) (fun r L1 hr=>?_)
   obtain⟨rfl,rfl⟩:=hr
   refine OD.run 3 [] (E':=[]) (L':=[.box [.int .i64 room,.int .i64 ((nx:Nat):Int),.row 1 0 ((l.eraseIdx fi).length) ((l.eraseIdx fi).length+(rest.length+1))],.row 3 ((l.eraseIdx fi).length+(rest.length+1)) ((l.eraseIdx fi++(e0::rest)).flatMap X04)]) (by kernel_rfl) ?_
   refine OD.nil ?_
   refine CD.seq ?_
   refine CD.region ?_
   refine OD.runE 1 [4] (E':=[(4,.bool true)]) (by kernel_rfl) ?_
   refine OD.nil ?_
   refine CD.ret ?_
   first | refine X06 ?_ | refine X07 ?_ | (dsimp only;first | refine X06 ?_ | refine X07 ?_)
   refine X26 2 (r:=.bool true) (L':=[.box [.int .i64 room,.int .i64 ((nx:Nat):Int),.row 1 0 ((l.eraseIdx fi).length) ((l.eraseIdx fi).length+(rest.length+1))],.row 3 ((l.eraseIdx fi).length+(rest.length+1)) ((l.eraseIdx fi++(e0::rest)).flatMap X04)]) (by kernel_rfl) ?_ ?_ (by kernel_rfl) (by kernel_rfl) ?_
   · exact Nat.le_of_ble_eq_true (by kernel_rfl)
   · exact Nat.le_of_ble_eq_true (by kernel_rfl)
   · exact(by have hd:X15 l name=(true,l.eraseIdx fi):=(by unfold X15;rw [hfe,if_neg (by omega),Int.toNat_natCast]);rw [hd];exact⟨e0::rest,rfl,rfl,by rw [List.length_eraseIdx_of_lt hil,List.length_cons];omega⟩)
end
end Go.Proofs.YtmmmjbipgngamaaGreatDoor
set_option maxRecDepth 100000
set_option maxHeartbeats 4000000
namespace Go.Proofs.YtmmmjbipgngamaaGreatDoor
open Go.Vai Go.RowKit
noncomputable section
theorem XC0 (room:Int) (nx:Nat) (l rest:List X0A) (name text:ByteArray) (hl:l.length+rest.length≤900000):FnD P ov 14 [.loc 0 0,.str name,.str text] [.box [.int .i64 room,.int .i64 ((nx:Nat):Int),.row 1 0 l.length (l.length+rest.length)],.row 3 (l.length+rest.length) ((l++rest).flatMap X04)] (fun r L1=>((¬ (X1J name=true∧¬ text=ByteArray.empty)∨X2O l name)→r=.bool false∧L1=[.box [.int .i64 room,.int .i64 ((nx:Nat):Int),.row 1 0 l.length (l.length+rest.length)],.row 3 (l.length+rest.length) ((l++rest).flatMap X04)])∧(X1J name=true∧¬ text=ByteArray.empty∧¬ X2O l name→∃ r2:List X0A,r=.bool true∧L1=[.box [.int .i64 room,.int .i64 ((nx:Nat):Int),.row 1 0 ((X7O l name text).length) ((X7O l name text).length+r2.length)],.row 3 ((X7O l name text).length+r2.length) (((X7O l name text)++r2).flatMap X04)]∧(X7O l name text).length+r2.length≤l.length+rest.length+1)):=by
 refine FnD.intro (by kernel_rfl) (fn:=Tryz.f14) (by kernel_rfl) rfl (by kernel_rfl) fun M a0 g0 hg0=>?_
 refine CD.seq ?_
 refine CD.region ?_
 refine OD.runE 1 [0,1,2] (E':=[(0,.loc 0 0),(1,.str name),(2,.str text)]) (by kernel_rfl) ?_
 refine OD.nil ?_
 refine CD.seq ?_
 refine CD.seq ?_
 refine CD.region ?_
 refine OD.runE 4 [0,1,2,10,11] (E':=[(0,.loc 0 0),(1,.str name),(2,.str text),(10,.bool false),(11,.str name)]) (by kernel_rfl) ?_
 refine OD.guard rfl rfl ?_
 refine OD.callE (XH2 name) rfl (by kernel_rfl) (by kernel_rfl) (by kernel_rfl) ?_
 refine OD.runE 3 [0,1,2,15] (E':=[(0,.loc 0 0),(1,.str name),(2,.str text),(15,.bool (!(X1J name)))]) (by kernel_rfl) ?_
 refine OD.ifB 15 rfl (fun h1=>?_) (fun h1=>?_)
 ·
  have h1:=XES h1
  refine OD.runE 3 [0,1,2,18] (E':=[(0,.loc 0 0),(1,.str name),(2,.str text),(18,.bool true)]) (by kernel_rfl) ?_
  refine OD.nil ?_
  refine CD.condT rfl ?_
  refine CD.seq ?_
  refine CD.region ?_
  refine OD.runE 1 [6] (E':=[(6,.bool false)]) (by kernel_rfl) ?_
  refine OD.nil ?_
  refine CD.ret ?_
  first | refine X06 ?_ | refine X07 ?_ | (dsimp only;first | refine X06 ?_ | refine X07 ?_)
  refine X26 2 (r:=.bool false) (L':=[.box [.int .i64 room,.int .i64 ((nx:Nat):Int),.row 1 0 l.length (l.length+rest.length)],.row 3 (l.length+rest.length) ((l++rest).flatMap X04)]) (by kernel_rfl) ?_ ?_ (by kernel_rfl) (by kernel_rfl) ?_
  · exact Nat.le_of_ble_eq_true (by kernel_rfl)
  · exact Nat.le_of_ble_eq_true (by kernel_rfl)
  · exact⟨fun _=>⟨rfl,rfl⟩,fun⟨a,b,c⟩=>by exfalso;first | exact b (by assumption) | exact Bool.noConfusion (a.symm.trans (by assumption:X1J name=false)) | exact c ⟨.inl (by omega),by omega⟩ | exact c ⟨.inr (by rw [hfe,Int.toNat_natCast];assumption),by omega⟩⟩
 ·
  have h1:=XDL h1
  refine OD.runE 1 [0,1,2,15,16] (E':=[(0,.loc 0 0),(1,.str name),(2,.str text),(15,.bool false),(16,.str text)]) (by kernel_rfl) ?_
  refine OD.guard rfl rfl ?_
  refine OD.eqS rfl rfl ?_
  refine OD.runE 1 [0,1,2,18] (E':=[(0,.loc 0 0),(1,.str name),(2,.str text),(18,.bool (decide (text=ByteArray.empty)))]) (by kernel_rfl) ?_
  refine OD.nil ?_
  refine CD.condP rfl (fun h2=>?_) (fun h2=>?_)
  ·
   refine CD.seq ?_
   refine CD.region ?_
   refine OD.runE 1 [6] (E':=[(6,.bool false)]) (by kernel_rfl) ?_
   refine OD.nil ?_
   refine CD.ret ?_
   first | refine X06 ?_ | refine X07 ?_ | (dsimp only;first | refine X06 ?_ | refine X07 ?_)
   refine X26 2 (r:=.bool false) (L':=[.box [.int .i64 room,.int .i64 ((nx:Nat):Int),.row 1 0 l.length (l.length+rest.length)],.row 3 (l.length+rest.length) ((l++rest).flatMap X04)]) (by kernel_rfl) ?_ ?_ (by kernel_rfl) (by kernel_rfl) ?_
   · exact Nat.le_of_ble_eq_true (by kernel_rfl)
   · exact Nat.le_of_ble_eq_true (by kernel_rfl)
   · exact⟨fun _=>⟨rfl,rfl⟩,fun⟨a,b,c⟩=>by exfalso;first | exact b (by assumption) | exact Bool.noConfusion (a.symm.trans (by assumption:X1J name=false)) | exact c ⟨.inl (by omega),by omega⟩ | exact c ⟨.inr (by rw [hfe,Int.toNat_natCast];assumption),by omega⟩⟩
  ·
   refine CD.skip ?_
   refine CD.seq ?_
   refine CD.region ?_
   refine OD.runE 2 [0,1,2,19,20] (E':=[(0,.loc 0 0),(1,.str name),(2,.str text),(19,.loc 0 0),(20,.str name)]) (by kernel_rfl) ?_
   refine OD.callFz (jb:=0) (jr:=1) (o:=0) (n:=l.length) (c:=l.length+rest.length) (e:=3) (N:=l.length+rest.length) (d0:=.int .i64 room) (d1:=.int .i64 ((nx:Nat):Int)) (cells:=(l++rest).flatMap X04) (rest:=[.str name]) (R:=fun r=>r=.int .i64 (X0I l name)) (by rw [X1N];exact X72 _ _ l name (by omega)) rfl (by kernel_rfl) rfl rfl rfl rfl (by kernel_rfl) (X2t l rest) (by omega) (by kernel_rfl) (fun r hr=>by rw [hr];rfl) (fun r hr=>?_)
   subst hr
   rcases X1k l name with hfe | ⟨fi,hfe,hil⟩
   ·
    refine OD.is 21 rfl (congrArg (D.int .i64) hfe) ?_
    refine OD.runE 1 [0,1,2,7] (E':=[(0,.loc 0 0),(1,.str name),(2,.str text),(7,.int .i64 (-1))]) (by kernel_rfl) ?_
    refine OD.nil ?_
    refine CD.seq ?_
    refine CD.seq ?_
    refine CD.region ?_
    refine OD.runE 2 [0,1,2,7,23] (E':=[(0,.loc 0 0),(1,.str name),(2,.str text),(7,.int .i64 (-1)),(23,.bool true)]) (by kernel_rfl) ?_
    refine OD.runE 12 [0,1,2,7,34,35] (E':=[(0,.loc 0 0),(1,.str name),(2,.str text),(7,.int .i64 (-1)),(34,.bool true),(35,.loc 0 0)]) (by kernel_rfl) ?_
    refine OD.guard rfl rfl ?_
    refine OD.callFz (jb:=0) (jr:=1) (o:=0) (n:=l.length) (c:=l.length+rest.length) (e:=3) (N:=l.length+rest.length) (d0:=.int .i64 room) (d1:=.int .i64 ((nx:Nat):Int)) (cells:=(l++rest).flatMap X04) (rest:=[.bool false]) (R:=fun r=>r=.int .i64 ((X0G l false:Nat):Int)) (by rw [X1N];exact X73 _ _ l false (by omega)) rfl (by kernel_rfl) rfl rfl rfl rfl (by kernel_rfl) (X2t l rest) (by omega) (by kernel_rfl) (fun r hr=>by rw [hr];rfl) (fun r hr=>?_)
    subst hr
    refine OD.runE 2 [0,1,2,7,38] (E':=[(0,.loc 0 0),(1,.str name),(2,.str text),(7,.int .i64 (-1)),(38,.bool (decide ((50:Int)≤((X0G l false:Nat):Int))))]) (by kernel_rfl) ?_
    refine OD.nil ?_
    refine CD.condP rfl (fun h3=>?_) (fun h3=>?_)
    ·
     refine CD.seq ?_
     refine CD.region ?_
     refine OD.runE 1 [6] (E':=[(6,.bool false)]) (by kernel_rfl) ?_
     refine OD.nil ?_
     refine CD.ret ?_
     first | refine X06 ?_ | refine X07 ?_ | (dsimp only;first | refine X06 ?_ | refine X07 ?_)
     refine X26 2 (r:=.bool false) (L':=[.box [.int .i64 room,.int .i64 ((nx:Nat):Int),.row 1 0 l.length (l.length+rest.length)],.row 3 (l.length+rest.length) ((l++rest).flatMap X04)]) (by kernel_rfl) ?_ ?_ (by kernel_rfl) (by kernel_rfl) ?_
     · exact Nat.le_of_ble_eq_true (by kernel_rfl)
     · exact Nat.le_of_ble_eq_true (by kernel_rfl)
     · exact⟨fun _=>⟨rfl,rfl⟩,fun⟨a,b,c⟩=>by exfalso;first | exact b (by assumption) | exact Bool.noConfusion (a.symm.trans (by assumption:X1J name=false)) | exact c ⟨.inl (by omega),by omega⟩ | exact c ⟨.inr (by rw [hfe,Int.toNat_natCast];assumption),by omega⟩⟩
    ·
     refine CD.skip ?_
     refine CD.seq ?_
     refine CD.seq ?_
     refine CD.region ?_
     refine OD.runE 2 [0,1,2,7,40] (E':=[(0,.loc 0 0),(1,.str name),(2,.str text),(7,.int .i64 (-1)),(40,.bool true)]) (by kernel_rfl) ?_
     refine OD.runE 0 [0,1,2,7,40] (E':=[(0,.loc 0 0),(1,.str name),(2,.str text),(7,.int .i64 (-1)),(40,.bool true)]) (by kernel_rfl) ?_
     refine OD.nil ?_
     refine CD.condT rfl ?_
     refine CD.region ?_
     refine OD.runE 4 [0,41,44] (E':=[(0,.loc 0 0),(41,.loc 0 0),(44,.agg [.str name,.str text,.bool false])]) (by kernel_rfl) ?_
     refine OD.bslR (e:=3) (cs:=[.str name,.str text,.bool false]) rfl (by kernel_rfl) ?_
     refine OD.runE 4 [41,45,49] (E':=[(41,.loc 0 0),(45,.row 2 0 1 1),(49,.row 1 0 l.length (l.length+rest.length))]) (by kernel_rfl) ?_
     refine OD.appFR (e:=3) (ds:=l.flatMap X04) rfl (by kernel_rfl) rfl rfl rfl rfl (X2t l rest) (X1N l rest) rfl (by decide) (by omega) (by omega) ?_
     refine OD.run 3 [] (E':=[]) (L':=[.box [.int .i64 room,.int .i64 ((nx:Nat):Int),.row 2 0 (l.length+1) (l.length+1)],.row 3 (l.length+rest.length) ((l++rest).flatMap X04),.row 3 (l.length+1) ([.str name,.str text,.bool false]++l.flatMap X04)]) (by kernel_rfl) ?_
     refine OD.rowIs 2 rfl (cs':=(((name,text,false)::l)++[]).flatMap X04) (by rw [List.append_nil];rfl) ?_
     refine OD.swap 1 2 rfl rfl ?_
     refine OD.weak [] 2 (E':=[]) (by kernel_rfl) (by simp [hg0]) (by kernel_rfl) ?_
     refine OD.run 0 [] (E':=[]) (L':=[.box [.int .i64 room,.int .i64 ((nx:Nat):Int),.row 1 0 (l.length+1) (l.length+1)],.row 3 (l.length+1) ((((name,text,false)::l)++[]).flatMap X04)]) (by kernel_rfl) ?_
     refine OD.nil ?_
     refine CD.seq ?_
     refine CD.region ?_
     refine OD.runE 1 [6] (E':=[(6,.bool true)]) (by kernel_rfl) ?_
     refine OD.nil ?_
     refine CD.ret ?_
     first | refine X06 ?_ | refine X07 ?_ | (dsimp only;first | refine X06 ?_ | refine X07 ?_)
     refine X26 2 (r:=.bool true) (L':=[.box [.int .i64 room,.int .i64 ((nx:Nat):Int),.row 1 0 (l.length+1) (l.length+1)],.row 3 (l.length+1) ((((name,text,false)::l)++[]).flatMap X04)]) (by kernel_rfl) ?_ ?_ (by kernel_rfl) (by kernel_rfl) ?_
     · exact Nat.le_of_ble_eq_true (by kernel_rfl)
     · exact Nat.le_of_ble_eq_true (by kernel_rfl)
     · exact⟨fun h=>by exfalso;rcases h with h | h;exact h ⟨by assumption,by assumption⟩;obtain⟨h1,h2⟩:=h;first | omega | (rcases h1 with h1 | h1;omega;rw [hfe,Int.toNat_natCast,(by assumption:(l.getD fi e0).2.2=false)]at h1;cases h1),fun _=>⟨[],rfl,by unfold X7O;rw [hfe,if_pos (by omega)];rfl,by unfold X7O;rw [hfe,if_pos (by omega)];simp<;>omega⟩⟩
   ·
    refine OD.is 21 rfl (congrArg (D.int .i64) hfe) ?_
    refine OD.runE 1 [0,1,2,7] (E':=[(0,.loc 0 0),(1,.str name),(2,.str text),(7,.int .i64 ((fi:Nat):Int))]) (by kernel_rfl) ?_
    refine OD.nil ?_
    refine CD.seq ?_
    refine CD.seq ?_
    refine CD.region ?_
    refine OD.runE 2 [0,1,2,7,23] (E':=[(0,.loc 0 0),(1,.str name),(2,.str text),(7,.int .i64 ((fi:Nat):Int)),(23,.bool (decide ((((fi:Nat):Int):Int)<0)))]) (by kernel_rfl) ?_
    refine OD.is 23 rfl (congrArg D.bool (decide_eq_false (by omega))) ?_
    refine OD.runE 6 [0,1,2,7,24,28,29] (E':=[(0,.loc 0 0),(1,.str name),(2,.str text),(7,.int .i64 ((fi:Nat):Int)),(24,.bool false),(28,.row 1 0 l.length (l.length+rest.length)),(29,.int .i64 ((fi:Nat):Int))]) (by kernel_rfl) ?_
    refine OD.guard rfl rfl ?_
    refine OD.idxE (i:=fi) (e:=3) rfl rfl (by kernel_rfl) (by omega) (by omega) ?_
    refine OD.runE 1 [0,1,2,7,24,31] (E':=[(0,.loc 0 0),(1,.str name),(2,.str text),(7,.int .i64 ((fi:Nat):Int)),(24,.bool false),(31,.loc 1 (fi*3+2))]) (by kernel_rfl) ?_
    refine OD.guard rfl rfl ?_
    refine OD.ldR (d:=.bool (l.getD fi e0).2.2) rfl rfl (by kernel_rfl) (X4W (k:=2) (by omega) (by decide) rfl) ?_
    refine OD.runE 2 [0,1,2,7,34] (E':=[(0,.loc 0 0),(1,.str name),(2,.str text),(7,.int .i64 ((fi:Nat):Int)),(34,.bool (l.getD fi e0).2.2)]) (by kernel_rfl) ?_
    refine OD.ifB 34 rfl (fun h4=>?_) (fun h4=>?_)
    ·
     refine OD.runE 1 [0,1,2,7,34,35] (E':=[(0,.loc 0 0),(1,.str name),(2,.str text),(7,.int .i64 ((fi:Nat):Int)),(34,.bool true),(35,.loc 0 0)]) (by kernel_rfl) ?_
     refine OD.guard rfl rfl ?_
     refine OD.callFz (jb:=0) (jr:=1) (o:=0) (n:=l.length) (c:=l.length+rest.length) (e:=3) (N:=l.length+rest.length) (d0:=.int .i64 room) (d1:=.int .i64 ((nx:Nat):Int)) (cells:=(l++rest).flatMap X04) (rest:=[.bool false]) (R:=fun r=>r=.int .i64 ((X0G l false:Nat):Int)) (by rw [X1N];exact X73 _ _ l false (by omega)) rfl (by kernel_rfl) rfl rfl rfl rfl (by kernel_rfl) (X2t l rest) (by omega) (by kernel_rfl) (fun r hr=>by rw [hr];rfl) (fun r hr=>?_)
     subst hr
     refine OD.runE 2 [0,1,2,7,38] (E':=[(0,.loc 0 0),(1,.str name),(2,.str text),(7,.int .i64 ((fi:Nat):Int)),(38,.bool (decide ((50:Int)≤((X0G l false:Nat):Int))))]) (by kernel_rfl) ?_
     refine OD.nil ?_
     refine CD.condP rfl (fun h5=>?_) (fun h5=>?_)
     ·
      refine CD.seq ?_
      refine CD.region ?_
      refine OD.runE 1 [6] (E':=[(6,.bool false)]) (by kernel_rfl) ?_
      refine OD.nil ?_
      refine CD.ret ?_
      first | refine X06 ?_ | refine X07 ?_ | (dsimp only;first | refine X06 ?_ | refine X07 ?_)
      refine X26 2 (r:=.bool false) (L':=[.box [.int .i64 room,.int .i64 ((nx:Nat):Int),.row 1 0 l.length (l.length+rest.length)],.row 3 (l.length+rest.length) ((l++rest).flatMap X04)]) (by kernel_rfl) ?_ ?_ (by kernel_rfl) (by kernel_rfl) ?_
      · exact Nat.le_of_ble_eq_true (by kernel_rfl)
      · exact Nat.le_of_ble_eq_true (by kernel_rfl)
      · exact⟨fun _=>⟨rfl,rfl⟩,fun⟨a,b,c⟩=>by exfalso;first | exact b (by assumption) | exact Bool.noConfusion (a.symm.trans (by assumption:X1J name=false)) | exact c ⟨.inl (by omega),by omega⟩ | exact c ⟨.inr (by rw [hfe,Int.toNat_natCast];assumption),by omega⟩⟩
     ·
      refine CD.skip ?_
      refine CD.seq ?_
      refine CD.seq ?_
      refine CD.region ?_
      refine OD.runE 2 [0,1,2,7,40] (E':=[(0,.loc 0 0),(1,.str name),(2,.str text),(7,.int .i64 ((fi:Nat):Int)),(40,.bool (decide ((((fi:Nat):Int):Int)<0)))]) (by kernel_rfl) ?_
      refine OD.is 40 rfl (congrArg D.bool (decide_eq_false (by omega))) ?_
      refine OD.runE 0 [0,1,2,7,40] (E':=[(0,.loc 0 0),(1,.str name),(2,.str text),(7,.int .i64 ((fi:Nat):Int)),(40,.bool false)]) (by kernel_rfl) ?_
      refine OD.nil ?_
      refine CD.condF rfl ?_
      refine CD.region ?_
      refine OD.runE 8 [56,57,60] (E':=[(56,.row 1 0 l.length (l.length+rest.length)),(57,.int .i64 ((fi:Nat):Int)),(60,.agg [.str name,.str text,.bool false])]) (by kernel_rfl) ?_
      refine OD.idxE (i:=fi) (e:=3) rfl rfl (by kernel_rfl) (by omega) (by omega) ?_
      refine OD.runE 0 [60,61] (E':=[(60,.agg [.str name,.str text,.bool false]),(61,.loc 1 (fi*3))]) (by kernel_rfl) ?_
      refine OD.stR (e:=3) (m:=3) (ds:=[.str name,.str text,.bool false]) rfl rfl rfl rfl rfl (by kernel_rfl) rfl (by rw [X1F,List.length_append];omega) ?_
      refine OD.rowIs 1 rfl (cs':=(l.set fi (name,text,false)++rest).flatMap X04) (X5J hil) ?_
      refine OD.runE 0 [] (E':=[]) (by kernel_rfl) ?_
      refine OD.nil ?_
      refine CD.seq ?_
      refine CD.region ?_
      refine OD.runE 1 [6] (E':=[(6,.bool true)]) (by kernel_rfl) ?_
      refine OD.nil ?_
      refine CD.ret ?_
      first | refine X06 ?_ | refine X07 ?_ | (dsimp only;first | refine X06 ?_ | refine X07 ?_)
      refine X26 2 (r:=.bool true) (L':=[.box [.int .i64 room,.int .i64 ((nx:Nat):Int),.row 1 0 l.length (l.length+rest.length)],.row 3 (l.length+rest.length) ((l.set fi (name,text,false)++rest).flatMap X04)]) (by kernel_rfl) ?_ ?_ (by kernel_rfl) (by kernel_rfl) ?_
      · exact Nat.le_of_ble_eq_true (by kernel_rfl)
      · exact Nat.le_of_ble_eq_true (by kernel_rfl)
      · exact⟨fun h=>by exfalso;rcases h with h | h;exact h ⟨by assumption,by assumption⟩;obtain⟨h1,h2⟩:=h;first | omega | (rcases h1 with h1 | h1;omega;rw [hfe,Int.toNat_natCast,(by assumption:(l.getD fi e0).2.2=false)]at h1;cases h1),fun _=>⟨rest,rfl,by unfold X7O;rw [hfe,if_neg (by omega),Int.toNat_natCast,List.length_set],by unfold X7O;rw [hfe,if_neg (by omega),Int.toNat_natCast,List.length_set];omega⟩⟩
    ·
     refine OD.runE 4 [0,1,2,7,38] (E':=[(0,.loc 0 0),(1,.str name),(2,.str text),(7,.int .i64 ((fi:Nat):Int)),(38,.bool false)]) (by kernel_rfl) ?_
     refine OD.nil ?_
     refine CD.condF rfl ?_
     refine CD.skip ?_
     refine CD.seq ?_
     refine CD.seq ?_
     refine CD.region ?_
     refine OD.runE 2 [0,1,2,7,40] (E':=[(0,.loc 0 0),(1,.str name),(2,.str text),(7,.int .i64 ((fi:Nat):Int)),(40,.bool (decide ((((fi:Nat):Int):Int)<0)))]) (by kernel_rfl) ?_
     refine OD.is 40 rfl (congrArg D.bool (decide_eq_false (by omega))) ?_
     refine OD.runE 0 [0,1,2,7,40] (E':=[(0,.loc 0 0),(1,.str name),(2,.str text),(7,.int .i64 ((fi:Nat):Int)),(40,.bool false)]) (by kernel_rfl) ?_
     refine OD.nil ?_
     refine CD.condF rfl ?_
     refine CD.region ?_
     refine OD.runE 8 [56,57,60] (E':=[(56,.row 1 0 l.length (l.length+rest.length)),(57,.int .i64 ((fi:Nat):Int)),(60,.agg [.str name,.str text,.bool false])]) (by kernel_rfl) ?_
     refine OD.idxE (i:=fi) (e:=3) rfl rfl (by kernel_rfl) (by omega) (by omega) ?_
     refine OD.runE 0 [60,61] (E':=[(60,.agg [.str name,.str text,.bool false]),(61,.loc 1 (fi*3))]) (by kernel_rfl) ?_
     refine OD.stR (e:=3) (m:=3) (ds:=[.str name,.str text,.bool false]) rfl rfl rfl rfl rfl (by kernel_rfl) rfl (by rw [X1F,List.length_append];omega) ?_
     refine OD.rowIs 1 rfl (cs':=(l.set fi (name,text,false)++rest).flatMap X04) (X5J hil) ?_
     refine OD.runE 0 [] (E':=[]) (by kernel_rfl) ?_
     refine OD.nil ?_
     refine CD.seq ?_
     refine CD.region ?_
     refine OD.runE 1 [6] (E':=[(6,.bool true)]) (by kernel_rfl) ?_
     refine OD.nil ?_
     refine CD.ret ?_
     first | refine X06 ?_ | refine X07 ?_ | (dsimp only;first | refine X06 ?_ | refine X07 ?_)
     refine X26 2 (r:=.bool true) (L':=[.box [.int .i64 room,.int .i64 ((nx:Nat):Int),.row 1 0 l.length (l.length+rest.length)],.row 3 (l.length+rest.length) ((l.set fi (name,text,false)++rest).flatMap X04)]) (by kernel_rfl) ?_ ?_ (by kernel_rfl) (by kernel_rfl) ?_
     · exact Nat.le_of_ble_eq_true (by kernel_rfl)
     · exact Nat.le_of_ble_eq_true (by kernel_rfl)
     · exact⟨fun h=>by exfalso;rcases h with h | h;exact h ⟨by assumption,by assumption⟩;obtain⟨h1,h2⟩:=h;first | omega | (rcases h1 with h1 | h1;omega;rw [hfe,Int.toNat_natCast,(by assumption:(l.getD fi e0).2.2=false)]at h1;cases h1),fun _=>⟨rest,rfl,by unfold X7O;rw [hfe,if_neg (by omega),Int.toNat_natCast,List.length_set],by unfold X7O;rw [hfe,if_neg (by omega),Int.toNat_natCast,List.length_set];omega⟩⟩
end
end Go.Proofs.YtmmmjbipgngamaaGreatDoor

/-
  What is proved here: a reader of signs out of bytes as a function; the signs that it tells are signs. the state of a reader of signs as an object (part UA0). what functions of the pattern's package come to (walks that a program of mine has printed). No conditions but those that the theorems state.
-/
import Derived.Test.YtiebldaihnbkmaaGreatDoorPA
import Derived.Test.YtiebldaihnbkmaaGreatDoorRM
import Derived.Test.YtiebldaihnbkmaaGreatDoorNT
import Derived.Test.YtiebldaihnbkmaaGreatDoorRI
set_option linter.unusedVariables false
set_option linter.unusedSimpArgs false
namespace Go.Utf
structure Ust where
 w:Nat
 m:Nat
 r:Nat
 lo:Nat
 hi:Nat
def X1x (q:Ust) (b:Nat):List Int×Ust :=
 if b<128 then([(b:Int)],⟨0,q.m,q.r,128,191⟩)
 else if 194≤b∧b≤223 then([],⟨1,1,b % 32,128,191⟩)
 else if 224≤b∧b≤239 then([],⟨1,2,b % 16,if b=224 then 160 else 128,if b=237 then 159 else 191⟩)
 else if 240≤b∧b≤244 then([],⟨1,3,b % 8,if b=240 then 144 else 128,if b=244 then 143 else 191⟩)
 else([65533],⟨0,q.m,q.r,128,191⟩)
def X6s (q:Ust):List Int×Ust:=if q.w=0 then([],q)else([65533],{ q with w:=0 })
def X3E (q:Ust) (b:Nat):List Int×Ust :=
 if q.w=0 then X1x q b
 else if b<q.lo∨q.hi<b then(65533::(X1x { q with w:=0 } b).1,(X1x { q with w:=0 } b).2)
 else if 1<q.m then([],⟨q.w+1,q.m - 1,q.r*64+b % 64,128,191⟩)
 else([((q.r*64+b % 64:Nat):Int)],⟨0,q.m - 1,q.r*64+b % 64,128,191⟩)
def X2o:Ust→List Nat→List Int×Ust
 | q,[]=>([],q)
 | q,b::bs=>((X3E q b).1++(X2o (X3E q b).2 bs).1,(X2o (X3E q b).2 bs).2)
def X3e (bs:List Nat):List Int:=(X2o ⟨0,0,0,0,0⟩ bs).1++(X6s (X2o ⟨0,0,0,0,0⟩ bs).2).1
theorem XDK (q:Ust) (bs:List Nat) (b:Nat):X2o q (bs++[b])=((X2o q bs).1++(X3E (X2o q bs).2 b).1,(X3E (X2o q bs).2 b).2):=by
 induction bs generalizing q with
 | nil=>simp [X2o]
 | cons x bs ih=>simp only [List.cons_append,X2o,ih,List.append_assoc]
def okQ (q:Ust):Prop:=q.w=0 ∨
 (q.w=1∧q.m=3∧((q.r=0∧q.lo=144∧q.hi=191)∨(1≤q.r∧q.r≤3∧q.lo=128∧q.hi=191)∨(q.r=4∧q.lo=128∧q.hi=143))) ∨
 (q.w=1∧q.m=2∧((q.r=0∧q.lo=160∧q.hi=191)∨(q.r=13∧q.lo=128∧q.hi=159)∨(1≤q.r∧q.r≤15∧q.r≠13∧q.lo=128∧q.hi=191))) ∨
 (q.w=2∧q.m=2∧16≤q.r∧q.r≤271∧q.lo=128∧q.hi=191) ∨
 (q.w=1∧q.m=1∧2≤q.r∧q.r≤31∧q.lo=128∧q.hi=191) ∨
 (q.w=2∧q.m=1∧((32≤q.r∧q.r≤863)∨(896≤q.r∧q.r≤1023))∧q.lo=128∧q.hi=191) ∨
 (q.w=3∧q.m=1∧1024≤q.r∧q.r≤17407∧q.lo=128∧q.hi=191)
theorem XI9 (m r lo hi:Nat):okQ ⟨0,m,r,lo,hi⟩:=.inl rfl
def X0a (r:Int):Prop:=(0≤r∧r<55296)∨(57343<r∧r≤1114111)
theorem X7d (q:Ust) {b:Nat} (hb:b<256):okQ (X1x q b).2∧(∀ r∈(X1x q b).1,X0a r)∧(X1x q b).1.length≤1:=by
 unfold X1x
 split
 · exact⟨XI9 _ _ _ _,fun r hr=>by simp at hr;subst hr;exact .inl (by omega),by simp⟩
 ·
  split
  ·
   refine⟨.inr (.inr (.inr (.inr (.inl ⟨rfl,rfl,?_⟩)))),fun r hr=>by simp at hr,by simp⟩
   dsimp only;omega
  ·
   split
   ·
    refine⟨.inr (.inr (.inl ⟨rfl,rfl,?_⟩)),fun r hr=>by simp at hr,by simp⟩
    dsimp only
    by_cases h1:b=224
    · subst h1;exact .inl ⟨rfl,rfl,rfl⟩
    ·
     by_cases h2:b=237
     · subst h2;exact .inr (.inl ⟨rfl,rfl,rfl⟩)
     · rw [if_neg h1,if_neg h2];exact .inr (.inr ⟨by omega,by omega,by omega,rfl,rfl⟩)
   ·
    split
    ·
     refine⟨.inr (.inl ⟨rfl,rfl,?_⟩),fun r hr=>by simp at hr,by simp⟩
     dsimp only
     by_cases h1:b=240
     · subst h1;exact .inl ⟨rfl,rfl,rfl⟩
     ·
      by_cases h2:b=244
      · subst h2;exact .inr (.inr ⟨rfl,rfl,rfl⟩)
      · rw [if_neg h1,if_neg h2];exact .inr (.inl ⟨by omega,by omega,rfl,rfl⟩)
    · exact⟨XI9 _ _ _ _,fun r hr=>by simp at hr;subst hr;exact .inr (by decide),by simp⟩
theorem X9f {q:Ust} (h:okQ q) {b:Nat} (hb:b<256):okQ (X3E q b).2∧(∀ r∈(X3E q b).1,X0a r)∧(X3E q b).1.length≤2:=by
 unfold X3E
 split
 · have:=X7d q hb;exact⟨this.1,this.2.1,by omega⟩
 ·
  rename_i hw
  split
  ·
   have:=X7d { q with w:=0 } hb
   refine⟨this.1,fun r hr=>?_,by simp only [List.length_cons];omega⟩
   rcases List.mem_cons.1 hr with e | e
   · subst e;exact .inr (by decide)
   · exact this.2.1 r e
  ·
   rename_i hlh
   obtain⟨w,m,r,lo,hi⟩:=q
   unfold okQ at h
   dsimp only at h hw hlh ⊢
   split
   ·
    refine⟨?_,fun r hr=>by simp at hr,by simp⟩
    rcases h with h | h | h | h | h | h | h
    · omega
    · refine .inr (.inr (.inr (.inl ⟨?_,?_,?_,?_,rfl,rfl⟩)))<;>dsimp only<;>omega
    · refine .inr (.inr (.inr (.inr (.inr (.inl ⟨?_,?_,?_,rfl,rfl⟩)))))<;>dsimp only<;>omega
    · refine .inr (.inr (.inr (.inr (.inr (.inr ⟨?_,?_,?_,?_,rfl,rfl⟩)))))<;>dsimp only<;>omega
    · omega
    · omega
    · omega
   ·
    refine⟨XI9 _ _ _ _,fun x hx=>?_,by simp⟩
    simp only [List.mem_singleton]at hx
    subst hx
    unfold X0a
    rcases h with h | h | h | h | h | h | h<;>omega
theorem XDL:∀ (bs:List Nat) {q:Ust},okQ q→(∀ b∈bs,b<256)→okQ (X2o q bs).2∧∀ r∈(X2o q bs).1,X0a r:=by
 intro bs
 induction bs with
 | nil=>intro q h _;exact⟨h,fun r hr=>by simp [X2o]at hr⟩
 | cons b bs ih =>
  intro q h hb
  have p:=X9f h (hb b (by simp))
  have i:=ih p.1 fun x hx=>hb x (by simp [hx])
  refine⟨i.1,fun r hr=>?_⟩
  rcases List.mem_append.1 hr with e | e
  · exact p.2.1 r e
  · exact i.2 r e
theorem XHd {bs:List Nat} (hb:∀ b∈bs,b<256):∀ r∈X3e bs,X0a r:=by
 intro r hr
 rcases List.mem_append.1 hr with e | e
 · exact(XDL bs (XI9 0 0 0 0) hb).2 r e
 ·
  unfold X6s at e
  split at e
  · cases e
  · simp at e;subst e;exact .inr (by decide)
theorem okQ.bd {q:Ust} (h:okQ q) (hw:q.w≠0):q.w≤3∧1≤q.m∧q.m≤3∧q.r≤17407∧q.lo<256∧q.hi<256:=by
 unfold okQ at h;omega
end Go.Utf
namespace Go.Vai
open Go.Utf
noncomputable section
abbrev XFv (q:Ust):Ob:=.box [.int .i64 ((q.w:Nat):Int),.int .i64 ((q.m:Nat):Int),.int .i32 ((q.r:Nat):Int),.int .u8 ((q.lo:Nat):Int),.int .u8 ((q.hi:Nat):Int)]
def X0D (s:ByteArray):List Nat:=(List.range s.size).map (sB s)
theorem X6t (s:ByteArray):∀ b∈X0D s,b<256:=fun b hb=>by
 obtain⟨i,_,rfl⟩:=List.mem_map.1 hb
 exact XBO s i
def XDw (s:ByteArray) (i:Nat):List Nat:=(List.range i).map (sB s)
theorem XHe (s:ByteArray) (i:Nat):∀ b∈XDw s i,b<256:=fun b hb=>by
 obtain⟨i,_,rfl⟩:=List.mem_map.1 hb
 exact XBO s i
theorem XDM (s:ByteArray) (i:Nat):XDw s (i+1)=XDw s i++[sB s i]:=by
 unfold XDw;rw [List.range_succ,List.map_append];rfl
abbrev q0:Ust:=⟨0,0,0,0,0⟩
theorem XFD {s:ByteArray} {i:Nat} {q:Ust} {out:List Int} (h:X2o q0 (XDw s i)=(out,q)):X2o q0 (XDw s (i+1))=(out++(X3E q (sB s i)).1,(X3E q (sB s i)).2):=by
 rw [XDM,XDK,h]
theorem q_sub {a b:Nat} (h:b<64):a*2 ^ 6 ||| b=a*64+b:=or64 h
theorem XDN (q:Ust):(X6s q).1.length≤1:=by unfold X6s;split<;>simp
theorem XHf {s:ByteArray} {i n:Nat} {q:Ust} {out:List Int} (h:X2o q0 (XDw s i)=(out,q)) (hn:out.length=n) (hi:i=s.size):D.sl 1 (n+(X6s q).1.length) ((out++(X6s q).1).map (D.int .i32))=.sl 1 (X3e (X0D s)).length ((X3e (X0D s)).map (D.int .i32)):=by
 subst hi
 have e:X3e (X0D s)=out++(X6s q).1:=by
  unfold X3e
  rw [show X0D s=XDw s s.size from rfl,h]
 rw [e,List.length_append,hn]
end
end Go.Vai
set_option maxRecDepth 100000
set_option maxHeartbeats 4000000
namespace Go.Proofs.YtiebldaihnbkmaaGreatDoor
open Go.Vai Go.Nfa Go.Utf
noncomputable section
theorem X5l (q:Ust) (b:Nat) (hb:b<256):FnD P ov 96 [.loc 0 0,.int .u8 ((b:Nat):Int)] [XFv q] (fun r L1=>r=.sl 1 (X1x q b).1.length ((X1x q b).1.map (D.int .i32))∧L1=[XFv (X1x q b).2]):=by
 refine FnD.intro (by kernel_rfl) (fn:=Tryz.f96) (by kernel_rfl) rfl (by kernel_rfl) fun M a0 g0 hg0=>?_
 refine CD.seq (CD.region ?_)
 refine OD.rE 1 [(0,.loc 0 0),(1,.int .u8 ((b:Nat):Int))] ?_
 refine OD.nil (CD.seq (CD.region ?_))
 refine OD.rL 12 [(0,.loc 0 0),(1,.int .u8 ((b:Nat):Int))] [.box [.i64 1,.i64 q.m,.int .i32 ((q.r:Nat):Int),.int .u8 128,.int .u8 191]] ?_
 refine OD.nil ?_
 refine CD.seqM (fun σ=>∃ (m1:Nat) (r1:Nat),σ=⟨[(0,.loc 0 0),(1,.int .u8 ((b:Nat):Int))],[.box [.i64 1,.i64 m1,.int .i32 ((r1:Nat):Int),.int .u8 ((128:Nat):Int),.int .u8 ((191:Nat):Int)]]⟩∧((194≤b∧b≤223∧m1=1∧r1=b % 32)∨(224≤b∧b≤239∧m1=2∧r1=b % 16)∨(240≤b∧b≤244∧m1=3∧r1=b % 8))) ?_ (fun σ hI=>?_)
 ·
  refine CD.block (CD.seq (CD.region ?_))
  refine OD.rE 3 [(0,.loc 0 0),(1,.int .u8 ((b:Nat):Int)),(18,.bool (decide ((((b:Nat):Int):Int)<128)))] ?_
  refine OD.nil ?_
  refine CD.condP rfl (fun h1=>?_) (fun h1=>?_)
  ·
   refine CD.seq (CD.region ?_)
   refine OD.rL 4 [(1,.int .u8 ((b:Nat):Int))] [.box [.i64 0,.i64 q.m,.int .i32 ((q.r:Nat):Int),.int .u8 128,.int .u8 191]] ?_
   refine OD.nil (CD.seq (CD.region ?_))
   refine OD.rE 2 [(25,.int .i32 (X05 .i32 (((b:Nat):Int))))] ?_
   refine OD.is 25 rfl (X6F (by omega) (by omega)) ?_
   refine OD.rE 0 [(25,.int .i32 ((b:Nat):Int))] ?_
   refine OD.bsl (e:=1) (cs:=[.int .i32 ((b:Nat):Int)]) rfl (by kernel_rfl) ?_
   refine OD.rE 1 [(4,.sl 1 1 [.int .i32 ((b:Nat):Int)])] ?_
   refine OD.nil (CD.ret ?_)
   (try dsimp only);first | refine X01 ?_ | refine X02 ?_
   exact rO 1 (.sl 1 1 [.int .i32 ((b:Nat):Int)]) [.box [.i64 0,.i64 q.m,.int .i32 ((q.r:Nat):Int),.int .u8 128,.int .u8 191]] ((by first | (exfalso;omega) | (unfold X1x;(repeat' (first | rw [if_pos (by omega)] | rw [if_neg (by omega)]));exact⟨rfl,rfl⟩)))
  ·
   refine CD.seqM (fun σ=>σ=⟨[(0,.loc 0 0),(1,.int .u8 ((b:Nat):Int)),(27,.bool (decide (194≤b∧b≤223)))],[.box [.i64 1,.i64 q.m,.int .i32 ((q.r:Nat):Int),.int .u8 128,.int .u8 191]]⟩) ?_ (fun σ e=>?_)
   ·
    refine CD.region ?_
    refine OD.rE 3 [(0,.loc 0 0),(1,.int .u8 ((b:Nat):Int)),(30,.bool (decide ((194:Int)≤((b:Nat):Int))))] ?_
    refine OD.ifP 30 rfl (fun h2=>?_) (fun h2=>?_)
    ·
     refine OD.rE 4 [(0,.loc 0 0),(1,.int .u8 ((b:Nat):Int)),(27,.bool (decide ((((b:Nat):Int):Int)≤223)))] ?_
     refine OD.nil ?_
     have hcut:decide (194≤b∧b≤223)=(decide ((((b:Nat):Int):Int)≤223)):=decide_eq_decide.2 (by omega)
     rw [hcut]<;>rfl
    ·
     refine OD.rE 4 [(0,.loc 0 0),(1,.int .u8 ((b:Nat):Int)),(27,.bool false)] ?_
     refine OD.nil ?_
     have hcut:decide (194≤b∧b≤223)=false:=decide_eq_false (by omega)
     rw [hcut]<;>rfl
   ·
    subst e
    refine CD.condP rfl (fun h3=>?_) (fun h3=>?_)
    ·
     refine CD.region ?_
     refine OD.rE 3 [(0,.loc 0 0),(1,.int .u8 ((b:Nat):Int)),(34,.loc 0 0),(35,.loc 0 0),(36,.int .u8 ((b:Nat):Int))] ?_
     refine OD.bit rfl rfl (XFB (m:=b) (n:=31) (show _<256 by omega) (show _<256 by decide)) ?_
     refine OD.is 37 rfl (congrArg (fun n:Nat=>D.int .u8 (n:Int)) (and31 _)) ?_
     refine OD.rE 1 [(0,.loc 0 0),(1,.int .u8 ((b:Nat):Int)),(34,.loc 0 0),(35,.loc 0 0),(38,.int .i32 (X05 .i32 (((b % 32:Nat):Int))))] ?_
     refine OD.is 38 rfl (X6F (by omega) (by omega)) ?_
     refine OD.rL 6 [(0,.loc 0 0),(1,.int .u8 ((b:Nat):Int))] [.box [.i64 1,.i64 1,.int .i32 ((b % 32:Nat):Int),.int .u8 128,.int .u8 191]] ?_
     refine OD.nil ?_
     exact⟨1,(b % 32),rfl,by omega⟩
    ·
     refine CD.seqM (fun σ=>σ=⟨[(0,.loc 0 0),(1,.int .u8 ((b:Nat):Int)),(43,.bool (decide (224≤b∧b≤239)))],[.box [.i64 1,.i64 q.m,.int .i32 ((q.r:Nat):Int),.int .u8 128,.int .u8 191]]⟩) ?_ (fun σ e=>?_)
     ·
      refine CD.region ?_
      refine OD.rE 3 [(0,.loc 0 0),(1,.int .u8 ((b:Nat):Int)),(46,.bool (decide ((224:Int)≤((b:Nat):Int))))] ?_
      refine OD.ifP 46 rfl (fun h4=>?_) (fun h4=>?_)
      ·
       refine OD.rE 4 [(0,.loc 0 0),(1,.int .u8 ((b:Nat):Int)),(43,.bool (decide ((((b:Nat):Int):Int)≤239)))] ?_
       refine OD.nil ?_
       have hcut:decide (224≤b∧b≤239)=(decide ((((b:Nat):Int):Int)≤239)):=decide_eq_decide.2 (by omega)
       rw [hcut]<;>rfl
      ·
       refine OD.rE 4 [(0,.loc 0 0),(1,.int .u8 ((b:Nat):Int)),(43,.bool false)] ?_
       refine OD.nil ?_
       have hcut:decide (224≤b∧b≤239)=false:=decide_eq_false (by omega)
       rw [hcut]<;>rfl
     ·
      subst e
      refine CD.condP rfl (fun h5=>?_) (fun h5=>?_)
      ·
       refine CD.region ?_
       refine OD.rE 3 [(0,.loc 0 0),(1,.int .u8 ((b:Nat):Int)),(50,.loc 0 0),(51,.loc 0 0),(52,.int .u8 ((b:Nat):Int))] ?_
       refine OD.bit rfl rfl (XFB (m:=b) (n:=15) (show _<256 by omega) (show _<256 by decide)) ?_
       refine OD.is 53 rfl (congrArg (fun n:Nat=>D.int .u8 (n:Int)) (and15 _)) ?_
       refine OD.rE 1 [(0,.loc 0 0),(1,.int .u8 ((b:Nat):Int)),(50,.loc 0 0),(51,.loc 0 0),(54,.int .i32 (X05 .i32 (((b % 16:Nat):Int))))] ?_
       refine OD.is 54 rfl (X6F (by omega) (by omega)) ?_
       refine OD.rL 6 [(0,.loc 0 0),(1,.int .u8 ((b:Nat):Int))] [.box [.i64 1,.i64 2,.int .i32 ((b % 16:Nat):Int),.int .u8 128,.int .u8 191]] ?_
       refine OD.nil ?_
       exact⟨2,(b % 16),rfl,by omega⟩
      ·
       refine CD.seqM (fun σ=>σ=⟨[(0,.loc 0 0),(1,.int .u8 ((b:Nat):Int)),(59,.bool (decide (240≤b∧b≤244)))],[.box [.i64 1,.i64 q.m,.int .i32 ((q.r:Nat):Int),.int .u8 128,.int .u8 191]]⟩) ?_ (fun σ e=>?_)
       ·
        refine CD.region ?_
        refine OD.rE 3 [(0,.loc 0 0),(1,.int .u8 ((b:Nat):Int)),(62,.bool (decide ((240:Int)≤((b:Nat):Int))))] ?_
        refine OD.ifP 62 rfl (fun h6=>?_) (fun h6=>?_)
        ·
         refine OD.rE 4 [(0,.loc 0 0),(1,.int .u8 ((b:Nat):Int)),(59,.bool (decide ((((b:Nat):Int):Int)≤244)))] ?_
         refine OD.nil ?_
         have hcut:decide (240≤b∧b≤244)=(decide ((((b:Nat):Int):Int)≤244)):=decide_eq_decide.2 (by omega)
         rw [hcut]<;>rfl
        ·
         refine OD.rE 4 [(0,.loc 0 0),(1,.int .u8 ((b:Nat):Int)),(59,.bool false)] ?_
         refine OD.nil ?_
         have hcut:decide (240≤b∧b≤244)=false:=decide_eq_false (by omega)
         rw [hcut]<;>rfl
       ·
        subst e
        refine CD.condP rfl (fun h7=>?_) (fun h7=>?_)
        ·
         refine CD.region ?_
         refine OD.rE 3 [(0,.loc 0 0),(1,.int .u8 ((b:Nat):Int)),(66,.loc 0 0),(67,.loc 0 0),(68,.int .u8 ((b:Nat):Int))] ?_
         refine OD.bit rfl rfl (XFB (m:=b) (n:=7) (show _<256 by omega) (show _<256 by decide)) ?_
         refine OD.is 69 rfl (congrArg (fun n:Nat=>D.int .u8 (n:Int)) (and7 _)) ?_
         refine OD.rE 1 [(0,.loc 0 0),(1,.int .u8 ((b:Nat):Int)),(66,.loc 0 0),(67,.loc 0 0),(70,.int .i32 (X05 .i32 (((b % 8:Nat):Int))))] ?_
         refine OD.is 70 rfl (X6F (by omega) (by omega)) ?_
         refine OD.rL 6 [(0,.loc 0 0),(1,.int .u8 ((b:Nat):Int))] [.box [.i64 1,.i64 3,.int .i32 ((b % 8:Nat):Int),.int .u8 128,.int .u8 191]] ?_
         refine OD.nil ?_
         exact⟨3,(b % 8),rfl,by omega⟩
        ·
         refine CD.seq (CD.region ?_)
         refine OD.rL 4 [] [.box [.i64 0,.i64 q.m,.int .i32 ((q.r:Nat):Int),.int .u8 128,.int .u8 191]] ?_
         refine OD.nil (CD.seq (CD.region ?_))
         refine OD.bsl (e:=1) (cs:=[.int .i32 65533]) rfl (by kernel_rfl) ?_
         refine OD.rE 1 [(4,.sl 1 1 [.int .i32 65533])] ?_
         refine OD.nil (CD.ret ?_)
         (try dsimp only);first | refine X01 ?_ | refine X02 ?_
         exact rO 1 (.sl 1 1 [.int .i32 65533]) [.box [.i64 0,.i64 q.m,.int .i32 ((q.r:Nat):Int),.int .u8 128,.int .u8 191]] ((by first | (exfalso;omega) | (unfold X1x;(repeat' (first | rw [if_pos (by omega)] | rw [if_neg (by omega)]));exact⟨rfl,rfl⟩)))
 ·
  obtain⟨m1,r1,e,hc⟩:=hI
  subst e
  refine CD.seq (CD.seq (CD.region ?_))
  refine OD.rE 1 [(0,.loc 0 0),(75,.int .u8 ((b:Nat):Int))] ?_
  refine OD.nil (CD.block (CD.seq (CD.region ?_)))
  refine OD.rE 2 [(0,.loc 0 0),(75,.int .u8 ((b:Nat):Int)),(76,.bool (decide ((((b:Nat):Int):Int)=224)))] ?_
  refine OD.nil ?_
  refine CD.condP rfl (fun h8=>?_) (fun h8=>?_)
  ·
   refine CD.region ?_
   refine OD.rL 4 [] [.box [.i64 1,.i64 m1,.int .i32 ((r1:Nat):Int),.int .u8 160,.int .u8 ((191:Nat):Int)]] ?_
   refine OD.nil (CD.seq (CD.region ?_))
   refine OD.rE 1 [(4,.lit (.slice none 0 0))] ?_
   refine OD.nil ?_
   refine CD.nilSl 4 1 rfl ?_
   refine CD.ret ?_
   (try dsimp only);first | refine X01 ?_ | refine X02 ?_
   exact rO 1 (.sl 1 0 (([]:List Int).map (D.int .i32))) [.box [.i64 1,.i64 m1,.int .i32 ((r1:Nat):Int),.int .u8 160,.int .u8 ((191:Nat):Int)]] ((by rcases hc with⟨c1,c2,rfl,rfl⟩ | ⟨c1,c2,rfl,rfl⟩ | ⟨c1,c2,rfl,rfl⟩<;>first | (exfalso;omega) | (unfold X1x;(repeat' (first | rw [if_pos (by omega)] | rw [if_neg (by omega)]));exact⟨rfl,rfl⟩)))
  ·
   refine CD.seq (CD.region ?_)
   refine OD.rE 2 [(0,.loc 0 0),(75,.int .u8 ((b:Nat):Int)),(81,.bool (decide ((((b:Nat):Int):Int)=237)))] ?_
   refine OD.nil ?_
   refine CD.condP rfl (fun h9=>?_) (fun h9=>?_)
   ·
    refine CD.region ?_
    refine OD.rL 4 [] [.box [.i64 1,.i64 m1,.int .i32 ((r1:Nat):Int),.int .u8 ((128:Nat):Int),.int .u8 159]] ?_
    refine OD.nil (CD.seq (CD.region ?_))
    refine OD.rE 1 [(4,.lit (.slice none 0 0))] ?_
    refine OD.nil ?_
    refine CD.nilSl 4 1 rfl ?_
    refine CD.ret ?_
    (try dsimp only);first | refine X01 ?_ | refine X02 ?_
    exact rO 1 (.sl 1 0 (([]:List Int).map (D.int .i32))) [.box [.i64 1,.i64 m1,.int .i32 ((r1:Nat):Int),.int .u8 ((128:Nat):Int),.int .u8 159]] ((by rcases hc with⟨c1,c2,rfl,rfl⟩ | ⟨c1,c2,rfl,rfl⟩ | ⟨c1,c2,rfl,rfl⟩<;>first | (exfalso;omega) | (unfold X1x;(repeat' (first | rw [if_pos (by omega)] | rw [if_neg (by omega)]));exact⟨rfl,rfl⟩)))
   ·
    refine CD.seq (CD.region ?_)
    refine OD.rE 2 [(0,.loc 0 0),(75,.int .u8 ((b:Nat):Int)),(86,.bool (decide ((((b:Nat):Int):Int)=240)))] ?_
    refine OD.nil ?_
    refine CD.condP rfl (fun h10=>?_) (fun h10=>?_)
    ·
     refine CD.region ?_
     refine OD.rL 4 [] [.box [.i64 1,.i64 m1,.int .i32 ((r1:Nat):Int),.int .u8 144,.int .u8 ((191:Nat):Int)]] ?_
     refine OD.nil (CD.seq (CD.region ?_))
     refine OD.rE 1 [(4,.lit (.slice none 0 0))] ?_
     refine OD.nil ?_
     refine CD.nilSl 4 1 rfl ?_
     refine CD.ret ?_
     (try dsimp only);first | refine X01 ?_ | refine X02 ?_
     exact rO 1 (.sl 1 0 (([]:List Int).map (D.int .i32))) [.box [.i64 1,.i64 m1,.int .i32 ((r1:Nat):Int),.int .u8 144,.int .u8 ((191:Nat):Int)]] ((by rcases hc with⟨c1,c2,rfl,rfl⟩ | ⟨c1,c2,rfl,rfl⟩ | ⟨c1,c2,rfl,rfl⟩<;>first | (exfalso;omega) | (unfold X1x;(repeat' (first | rw [if_pos (by omega)] | rw [if_neg (by omega)]));exact⟨rfl,rfl⟩)))
    ·
     refine CD.seq (CD.region ?_)
     refine OD.rE 2 [(0,.loc 0 0),(91,.bool (decide ((((b:Nat):Int):Int)=244)))] ?_
     refine OD.nil ?_
     refine CD.condP rfl (fun h11=>?_) (fun h11=>?_)
     ·
      refine CD.region ?_
      refine OD.rL 4 [] [.box [.i64 1,.i64 m1,.int .i32 ((r1:Nat):Int),.int .u8 ((128:Nat):Int),.int .u8 143]] ?_
      refine OD.nil (CD.seq (CD.region ?_))
      refine OD.rE 1 [(4,.lit (.slice none 0 0))] ?_
      refine OD.nil ?_
      refine CD.nilSl 4 1 rfl ?_
      refine CD.ret ?_
      (try dsimp only);first | refine X01 ?_ | refine X02 ?_
      exact rO 1 (.sl 1 0 (([]:List Int).map (D.int .i32))) [.box [.i64 1,.i64 m1,.int .i32 ((r1:Nat):Int),.int .u8 ((128:Nat):Int),.int .u8 143]] ((by rcases hc with⟨c1,c2,rfl,rfl⟩ | ⟨c1,c2,rfl,rfl⟩ | ⟨c1,c2,rfl,rfl⟩<;>first | (exfalso;omega) | (unfold X1x;(repeat' (first | rw [if_pos (by omega)] | rw [if_neg (by omega)]));exact⟨rfl,rfl⟩)))
     ·
      refine CD.skip (CD.seq (CD.region ?_))
      refine OD.rE 1 [(4,.lit (.slice none 0 0))] ?_
      refine OD.nil ?_
      refine CD.nilSl 4 1 rfl ?_
      refine CD.ret ?_
      (try dsimp only);first | refine X01 ?_ | refine X02 ?_
      exact rO 1 (.sl 1 0 (([]:List Int).map (D.int .i32))) [.box [.i64 1,.i64 m1,.int .i32 ((r1:Nat):Int),.int .u8 ((128:Nat):Int),.int .u8 ((191:Nat):Int)]] ((by rcases hc with⟨c1,c2,rfl,rfl⟩ | ⟨c1,c2,rfl,rfl⟩ | ⟨c1,c2,rfl,rfl⟩<;>first | (exfalso;omega) | (unfold X1x;(repeat' (first | rw [if_pos (by omega)] | rw [if_neg (by omega)]));exact⟨rfl,rfl⟩)))
theorem XJ2 (q:Ust):FnD P ov 72 [.loc 0 0] [XFv q] (fun r L1=>r=.sl 1 (X6s q).1.length ((X6s q).1.map (D.int .i32))∧L1=[XFv (X6s q).2]):=by
 refine FnD.intro (by kernel_rfl) (fn:=Tryz.f72) (by kernel_rfl) rfl (by kernel_rfl) fun M a0 g0 hg0=>?_
 refine CD.seq (CD.region ?_)
 refine OD.rE 1 [(0,.loc 0 0)] ?_
 refine OD.nil (CD.seq (CD.seq (CD.region ?_)))
 refine OD.rE 9 [(0,.loc 0 0),(11,.bool (decide ((((q.w:Nat):Int):Int)=0)))] ?_
 refine OD.nil ?_
 refine CD.condP rfl (fun h1=>?_) (fun h1=>?_)
 ·
  refine CD.seq (CD.region ?_)
  refine OD.rE 1 [(2,.lit (.slice none 0 0))] ?_
  refine OD.nil ?_
  refine CD.nilSl 2 1 rfl ?_
  refine CD.ret ?_
  (try dsimp only);first | refine X01 ?_ | refine X02 ?_
  exact rO 1 (.sl 1 0 (([]:List Int).map (D.int .i32))) [.box [.i64 q.w,.i64 q.m,.int .i32 ((q.r:Nat):Int),.int .u8 ((q.lo:Nat):Int),.int .u8 ((q.hi:Nat):Int)]] ((by unfold X6s;(repeat' (first | rw [if_pos (by omega)] | rw [if_neg (by omega)]));exact⟨rfl,rfl⟩))
 ·
  refine CD.skip (CD.seq (CD.region ?_))
  refine OD.rL 4 [] [.box [.i64 0,.i64 q.m,.int .i32 ((q.r:Nat):Int),.int .u8 ((q.lo:Nat):Int),.int .u8 ((q.hi:Nat):Int)]] ?_
  refine OD.nil (CD.seq (CD.region ?_))
  refine OD.bsl (e:=1) (cs:=[.int .i32 65533]) rfl (by kernel_rfl) ?_
  refine OD.rE 1 [(2,.sl 1 1 [.int .i32 65533])] ?_
  refine OD.nil (CD.ret ?_)
  (try dsimp only);first | refine X01 ?_ | refine X02 ?_
  exact rO 1 (.sl 1 1 [.int .i32 65533]) [.box [.i64 0,.i64 q.m,.int .i32 ((q.r:Nat):Int),.int .u8 ((q.lo:Nat):Int),.int .u8 ((q.hi:Nat):Int)]] ((by unfold X6s;(repeat' (first | rw [if_pos (by omega)] | rw [if_neg (by omega)]));exact⟨rfl,rfl⟩))
theorem XDO (q:Ust) (hw:q.w≠0):FnD P ov 72 [.loc 0 0] [XFv q] (fun r L1=>r=.row 1 0 1 1∧L1=[XFv { q with w:=0 },.row 1 1 ([(65533:Int)].map (D.int .i32))]):=by
 refine FnD.intro (by kernel_rfl) (fn:=Tryz.f72) (by kernel_rfl) rfl (by kernel_rfl) fun M a0 g0 hg0=>?_
 refine CD.seq (CD.region ?_)
 refine OD.rE 1 [(0,.loc 0 0)] ?_
 refine OD.nil (CD.seq (CD.seq (CD.region ?_)))
 refine OD.rE 8 [(0,.loc 0 0),(5,.bool false),(10,.bool (decide ((((q.w:Nat):Int):Int)=0)))] ?_
 refine OD.is 10 rfl (congrArg D.bool (decide_eq_false (by omega))) ?_
 refine OD.rE 1 [(0,.loc 0 0),(11,.bool false)] ?_
 refine OD.nil ?_
 refine CD.condF rfl ?_
 refine CD.skip (CD.seq (CD.region ?_))
 refine OD.rL 4 [] [.box [.i64 0,.i64 q.m,.int .i32 ((q.r:Nat):Int),.int .u8 ((q.lo:Nat):Int),.int .u8 ((q.hi:Nat):Int)]] ?_
 refine OD.nil (CD.seq (CD.region ?_))
 refine OD.bslR (e:=1) (cs:=[.int .i32 65533]) rfl (by kernel_rfl) ?_
 refine OD.rE 1 [(2,.row 1 0 1 1)] ?_
 refine OD.nil (CD.ret ?_)
 (try dsimp only);first | refine X01 ?_ | refine X02 ?_
 exact rO 2 (.row 1 0 1 1) [.box [.i64 0,.i64 q.m,.int .i32 ((q.r:Nat):Int),.int .u8 ((q.lo:Nat):Int),.int .u8 ((q.hi:Nat):Int)],.row 1 1 (([(65533:Int)]).map (D.int .i32))] (⟨rfl,rfl⟩)
theorem XFE (q:Ust) (b:Nat) (hb:b<256) (hq:okQ q):FnD P ov 71 [.loc 0 0,.int .u8 ((b:Nat):Int)] [XFv q] (fun r L1=>r=.sl 1 (X3E q b).1.length ((X3E q b).1.map (D.int .i32))∧L1=[XFv (X3E q b).2]):=by
 have hbd:q.w≠0→q.w≤3∧1≤q.m∧q.m≤3∧q.r≤17407∧q.lo<256∧q.hi<256:=hq.bd
 refine FnD.intro (by kernel_rfl) (fn:=Tryz.f71) (by kernel_rfl) rfl (by kernel_rfl) fun M a0 g0 hg0=>?_
 refine CD.seq (CD.region ?_)
 refine OD.rE 1 [(0,.loc 0 0),(1,.int .u8 ((b:Nat):Int))] ?_
 refine OD.nil (CD.seq (CD.block (CD.seq (CD.region ?_))))
 refine OD.rE 3 [(0,.loc 0 0),(1,.int .u8 ((b:Nat):Int)),(5,.bool false)] ?_
 refine OD.nil ?_
 refine CD.condF rfl ?_
 refine CD.seq (CD.region ?_)
 refine OD.rE 6 [(0,.loc 0 0),(1,.int .u8 ((b:Nat):Int)),(8,.bool (decide ((((q.w:Nat):Int):Int)=0)))] ?_
 refine OD.nil ?_
 refine CD.condP rfl (fun h1=>?_) (fun h1=>?_)
 ·
  refine CD.seq (CD.region ?_)
  refine OD.rE 2 [(14,.loc 0 0),(15,.int .u8 ((b:Nat):Int))] ?_
  refine OD.cO [0] [.loc 0 0,.int .u8 ((b:Nat):Int)] (X5l q b hb) (fun r L1 hr=>?_)
  obtain⟨rfl,rfl⟩:=hr
  refine OD.rE 1 [(4,.sl 1 ((X1x q b).1.length) (((X1x q b).1).map (D.int .i32)))] ?_
  refine OD.nil (CD.ret ?_)
  (try dsimp only);first | refine X01 ?_ | refine X02 ?_
  exact rO 1 (.sl 1 ((X1x q b).1.length) (((X1x q b).1).map (D.int .i32))) [.box [.i64 (((X1x q b).2.w:Nat):Int),.i64 (((X1x q b).2.m:Nat):Int),.int .i32 (((X1x q b).2.r:Nat):Int),.int .u8 (((X1x q b).2.lo:Nat):Int),.int .u8 (((X1x q b).2.hi:Nat):Int)]] ((by unfold X3E;(repeat' (first | rw [if_pos (by omega)] | rw [if_neg (by omega)]));exact⟨by first | rfl | (rw [List.length_cons,Nat.add_comm];rfl),rfl⟩))
 ·
  refine CD.seq (CD.region ?_)
  refine OD.rE 7 [(0,.loc 0 0),(1,.int .u8 ((b:Nat):Int)),(24,.bool (decide ((((b:Nat):Int):Int)<((q.lo:Nat):Int))))] ?_
  refine OD.ifP 24 rfl (fun h2=>?_) (fun h2=>?_)
  ·
   refine OD.rE 8 [(0,.loc 0 0),(1,.int .u8 ((b:Nat):Int)),(17,.bool true)] ?_
   refine OD.nil ?_
   refine CD.condT rfl ?_
   refine CD.seq (CD.region ?_)
   refine OD.rE 1 [(0,.loc 0 0),(1,.int .u8 ((b:Nat):Int)),(32,.loc 0 0)] ?_
   refine OD.cO [0] [.loc 0 0] (XDO q (by omega)) (fun r L1 hr=>?_)
   obtain⟨rfl,rfl⟩:=hr
   refine OD.rE 2 [(33,.row 1 0 1 1),(34,.loc 0 0),(35,.int .u8 ((b:Nat):Int))] ?_
   refine OD.cO [0] [.loc 0 0,.int .u8 ((b:Nat):Int)] (X5l ⟨0,q.m,q.r,q.lo,q.hi⟩ b hb) (fun r L1 hr=>?_)
   obtain⟨rfl,rfl⟩:=hr
   refine OD.rE 0 [(33,.row 1 0 1 1),(36,.sl 1 ((X1x ⟨0,q.m,q.r,q.lo,q.hi⟩ b).1.length) (((X1x ⟨0,q.m,q.r,q.lo,q.hi⟩ b).1).map (D.int .i32)))] ?_
   refine OD.appV' (f:=(D.int .i32)) (xs:=([(65533:Int)])) (vs:=(X1x ⟨0,q.m,q.r,q.lo,q.hi⟩ b).1) rfl (by kernel_rfl) rfl rfl rfl rfl rfl rfl (by have:=(X7d ⟨0,q.m,q.r,q.lo,q.hi⟩ hb).2.2;omega) ?_
   refine OD.rE 1 [(4,.row 1 0 (1+(X1x ⟨0,q.m,q.r,q.lo,q.hi⟩ b).1.length) (1+(X1x ⟨0,q.m,q.r,q.lo,q.hi⟩ b).1.length))] ?_
   refine OD.nil ?_
   refine CD.freeze 4 rfl rfl (Nat.le_refl _) ?_
   refine CD.ret ?_
   (try dsimp only);first | refine X01 ?_ | refine X02 ?_
   exact rO 1 (.sl 1 (1+(X1x ⟨0,q.m,q.r,q.lo,q.hi⟩ b).1.length) (([(65533:Int)]++(X1x ⟨0,q.m,q.r,q.lo,q.hi⟩ b).1).map (D.int .i32))) [.box [.i64 (((X1x ⟨0,q.m,q.r,q.lo,q.hi⟩ b).2.w:Nat):Int),.i64 (((X1x ⟨0,q.m,q.r,q.lo,q.hi⟩ b).2.m:Nat):Int),.int .i32 (((X1x ⟨0,q.m,q.r,q.lo,q.hi⟩ b).2.r:Nat):Int),.int .u8 (((X1x ⟨0,q.m,q.r,q.lo,q.hi⟩ b).2.lo:Nat):Int),.int .u8 (((X1x ⟨0,q.m,q.r,q.lo,q.hi⟩ b).2.hi:Nat):Int)]] ((by unfold X3E;(repeat' (first | rw [if_pos (by omega)] | rw [if_neg (by omega)]));exact⟨by first | rfl | (rw [List.length_cons,Nat.add_comm];rfl),rfl⟩))
  ·
   refine OD.rE 8 [(0,.loc 0 0),(1,.int .u8 ((b:Nat):Int)),(17,.bool (decide ((((q.hi:Nat):Int):Int)<((b:Nat):Int))))] ?_
   refine OD.nil ?_
   refine CD.condP rfl (fun h3=>?_) (fun h3=>?_)
   ·
    refine CD.seq (CD.region ?_)
    refine OD.rE 1 [(0,.loc 0 0),(1,.int .u8 ((b:Nat):Int)),(32,.loc 0 0)] ?_
    refine OD.cO [0] [.loc 0 0] (XDO q (by omega)) (fun r L1 hr=>?_)
    obtain⟨rfl,rfl⟩:=hr
    refine OD.rE 2 [(33,.row 1 0 1 1),(34,.loc 0 0),(35,.int .u8 ((b:Nat):Int))] ?_
    refine OD.cO [0] [.loc 0 0,.int .u8 ((b:Nat):Int)] (X5l ⟨0,q.m,q.r,q.lo,q.hi⟩ b hb) (fun r L1 hr=>?_)
    obtain⟨rfl,rfl⟩:=hr
    refine OD.rE 0 [(33,.row 1 0 1 1),(36,.sl 1 ((X1x ⟨0,q.m,q.r,q.lo,q.hi⟩ b).1.length) (((X1x ⟨0,q.m,q.r,q.lo,q.hi⟩ b).1).map (D.int .i32)))] ?_
    refine OD.appV' (f:=(D.int .i32)) (xs:=([(65533:Int)])) (vs:=(X1x ⟨0,q.m,q.r,q.lo,q.hi⟩ b).1) rfl (by kernel_rfl) rfl rfl rfl rfl rfl rfl (by have:=(X7d ⟨0,q.m,q.r,q.lo,q.hi⟩ hb).2.2;omega) ?_
    refine OD.rE 1 [(4,.row 1 0 (1+(X1x ⟨0,q.m,q.r,q.lo,q.hi⟩ b).1.length) (1+(X1x ⟨0,q.m,q.r,q.lo,q.hi⟩ b).1.length))] ?_
    refine OD.nil ?_
    refine CD.freeze 4 rfl rfl (Nat.le_refl _) ?_
    refine CD.ret ?_
    (try dsimp only);first | refine X01 ?_ | refine X02 ?_
    exact rO 1 (.sl 1 (1+(X1x ⟨0,q.m,q.r,q.lo,q.hi⟩ b).1.length) (([(65533:Int)]++(X1x ⟨0,q.m,q.r,q.lo,q.hi⟩ b).1).map (D.int .i32))) [.box [.i64 (((X1x ⟨0,q.m,q.r,q.lo,q.hi⟩ b).2.w:Nat):Int),.i64 (((X1x ⟨0,q.m,q.r,q.lo,q.hi⟩ b).2.m:Nat):Int),.int .i32 (((X1x ⟨0,q.m,q.r,q.lo,q.hi⟩ b).2.r:Nat):Int),.int .u8 (((X1x ⟨0,q.m,q.r,q.lo,q.hi⟩ b).2.lo:Nat):Int),.int .u8 (((X1x ⟨0,q.m,q.r,q.lo,q.hi⟩ b).2.hi:Nat):Int)]] ((by unfold X3E;(repeat' (first | rw [if_pos (by omega)] | rw [if_neg (by omega)]));exact⟨by first | rfl | (rw [List.length_cons,Nat.add_comm];rfl),rfl⟩))
   ·
    refine CD.skip (CD.seq (CD.region ?_))
    refine OD.rE 7 [(0,.loc 0 0),(1,.int .u8 ((b:Nat):Int)),(38,.loc 0 0),(39,.loc 0 0),(40,.loc 0 0),(44,.int .i32 ((q.r:Nat):Int))] ?_
    refine OD.bit rfl rfl (q_shl (m:=q.r) (n:=6) (show _≤32 by decide) (show _<2147483648 by omega)) ?_
    refine OD.rE 1 [(0,.loc 0 0),(38,.loc 0 0),(39,.loc 0 0),(40,.loc 0 0),(45,.int .i32 ((q.r*2 ^ 6:Nat):Int)),(46,.int .u8 ((b:Nat):Int))] ?_
    refine OD.bit rfl rfl (XFB (m:=b) (n:=63) (show _<256 by omega) (show _<256 by decide)) ?_
    refine OD.is 47 rfl (congrArg (fun n:Nat=>D.int .u8 (n:Int)) (and63 _)) ?_
    refine OD.rE 1 [(0,.loc 0 0),(38,.loc 0 0),(39,.loc 0 0),(40,.loc 0 0),(45,.int .i32 ((q.r*2 ^ 6:Nat):Int)),(48,.int .i32 (X05 .i32 (((b % 64:Nat):Int))))] ?_
    refine OD.is 48 rfl (X6F (by omega) (by omega)) ?_
    refine OD.rE 0 [(0,.loc 0 0),(38,.loc 0 0),(39,.loc 0 0),(40,.loc 0 0),(45,.int .i32 ((q.r*2 ^ 6:Nat):Int)),(48,.int .i32 ((b % 64:Nat):Int))] ?_
    have hor:=q_sub (a:=q.r) (b:=(b % 64)) (by omega)
    refine OD.bit rfl rfl (q_or (m:=(q.r*2 ^ 6)) (n:=(b % 64)) (show _<2147483648 by omega) (show _<2147483648 by omega) (show _<2147483648 by rw [hor];omega)) ?_
    refine OD.is 49 rfl (congrArg (fun n:Nat=>D.int .i32 (n:Int)) hor) ?_
    refine OD.rL 9 [(0,.loc 0 0)] [.box [.i64 q.w,.i64 q.m,.int .i32 ((q.r*64+(b % 64):Nat):Int),.int .u8 128,.int .u8 191]] ?_
    refine OD.nil (CD.seq (CD.region ?_))
    refine OD.rE 5 [(0,.loc 0 0),(56,.loc 0 0),(60,.i64 (X05 .i64 (((q.w:Nat):Int)+1)))] ?_
    refine OD.is 60 rfl (wrn (m:=q.w+1) (by omega) (by omega)) ?_
    refine OD.rL 3 [(0,.loc 0 0)] [.box [.i64 ((q.w+1:Nat):Int),.i64 q.m,.int .i32 ((q.r*64+(b % 64):Nat):Int),.int .u8 128,.int .u8 191]] ?_
    refine OD.nil (CD.seq (CD.region ?_))
    refine OD.rE 5 [(0,.loc 0 0),(63,.loc 0 0),(67,.i64 (X05 .i64 (((q.m:Nat):Int) - 1)))] ?_
    refine OD.is 67 rfl (wrn (m:=q.m - 1) (by omega) (by omega)) ?_
    refine OD.rL 3 [(0,.loc 0 0)] [.box [.i64 ((q.w+1:Nat):Int),.i64 ((q.m - 1:Nat):Int),.int .i32 ((q.r*64+(b % 64):Nat):Int),.int .u8 128,.int .u8 191]] ?_
    refine OD.nil (CD.seq (CD.seq (CD.region ?_)))
    refine OD.rE 5 [(0,.loc 0 0),(74,.bool (decide ((0:Int)<((q.m - 1:Nat):Int))))] ?_
    refine OD.nil ?_
    refine CD.condP rfl (fun h4=>?_) (fun h4=>?_)
    ·
     refine CD.seq (CD.region ?_)
     refine OD.rE 1 [(4,.lit (.slice none 0 0))] ?_
     refine OD.nil ?_
     refine CD.nilSl 4 1 rfl ?_
     refine CD.ret ?_
     (try dsimp only);first | refine X01 ?_ | refine X02 ?_
     exact rO 1 (.sl 1 0 (([]:List Int).map (D.int .i32))) [.box [.i64 ((q.w+1:Nat):Int),.i64 ((q.m - 1:Nat):Int),.int .i32 ((q.r*64+(b % 64):Nat):Int),.int .u8 128,.int .u8 191]] ((by unfold X3E;(repeat' (first | rw [if_pos (by omega)] | rw [if_neg (by omega)]));exact⟨by first | rfl | (rw [List.length_cons,Nat.add_comm];rfl),rfl⟩))
    ·
     refine CD.skip (CD.seq (CD.region ?_))
     refine OD.rL 4 [(0,.loc 0 0)] [.box [.i64 0,.i64 ((q.m - 1:Nat):Int),.int .i32 ((q.r*64+(b % 64):Nat):Int),.int .u8 128,.int .u8 191]] ?_
     refine OD.nil (CD.seq (CD.region ?_))
     refine OD.rE 4 [(81,.int .i32 ((q.r*64+(b % 64):Nat):Int))] ?_
     refine OD.bsl (e:=1) (cs:=[.int .i32 ((q.r*64+(b % 64):Nat):Int)]) rfl (by kernel_rfl) ?_
     refine OD.rE 1 [(4,.sl 1 1 [.int .i32 ((q.r*64+(b % 64):Nat):Int)])] ?_
     refine OD.nil (CD.ret ?_)
     (try dsimp only);first | refine X01 ?_ | refine X02 ?_
     exact rO 1 (.sl 1 1 [.int .i32 ((q.r*64+(b % 64):Nat):Int)]) [.box [.i64 0,.i64 ((q.m - 1:Nat):Int),.int .i32 ((q.r*64+(b % 64):Nat):Int),.int .u8 128,.int .u8 191]] ((by unfold X3E;(repeat' (first | rw [if_pos (by omega)] | rw [if_neg (by omega)]));exact⟨by first | rfl | (rw [List.length_cons,Nat.add_comm];rfl),rfl⟩))
theorem XDP (s:ByteArray) (hsz:s.size≤1000000):FnD P ov 53 [.str s] [] (fun r L1=>(fun r=>r=.sl 1 (X3e (X0D s)).length ((X3e (X0D s)).map (D.int .i32))) r∧L1=[]):=by
 refine FnD.intro (by kernel_rfl) (fn:=Tryz.f53) (by kernel_rfl) rfl (by kernel_rfl) fun M a0 g0 hg0=>?_
 refine CD.seq (CD.region ?_)
 refine OD.rE 1 [(0,.str s)] ?_
 refine OD.nil (CD.seq (CD.region ?_))
 refine OD.rL 1 [(0,.str s),(3,.loc 0 0)] [.box [.i64 0,.i64 0,.int .i32 0,.int .u8 0,.int .u8 0]] ?_
 refine OD.nil (CD.seq (CD.region ?_))
 refine OD.rE 1 [(0,.str s),(3,.loc 0 0),(4,.lit (.slice none 0 0))] ?_
 refine OD.nilRow 4 1 rfl ?_
 refine OD.rE 0 [(0,.str s),(3,.loc 0 0),(4,.row 1 0 0 0)] ?_
 refine OD.nil (CD.seq (CD.seq (CD.region ?_)))
 refine OD.rE 3 [(0,.str s),(3,.loc 0 0),(4,.row 1 0 0 0),(7,.i64 s.size),(8,.i64 0)] ?_
 refine OD.nil (CD.block ?_)
 refine CD.weak [0,3,4,7,8] 2 (E':=[(0,.str s),(3,.loc 0 0),(4,.row 1 0 0 0),(7,.i64 s.size),(8,.i64 0)]) (by kernel_rfl) (by simp [hg0]) (by kernel_rfl) ?_
 refine CD.loop (fun m σ=>∃ (i:Nat) (q:Ust) (out:List Int) (n:Nat),σ=⟨[(0,.str s),(3,.loc 0 0),(4,.row 1 0 n n),(7,.i64 s.size),(8,.i64 i)],[.box [.i64 q.w,.i64 q.m,.int .i32 ((q.r:Nat):Int),.int .u8 ((q.lo:Nat):Int),.int .u8 ((q.hi:Nat):Int)],.row 1 n (out.map (D.int .i32))]⟩∧(i≤s.size)∧(X2o q0 (XDw s i)=(out,q))∧(out.length=n)∧(n≤2*i)∧m=s.size - i) (fun m σ hI=>?_) _ ⟨0,q0,([]:List Int),0,(by kernel_rfl),Nat.zero_le _,rfl,rfl,Nat.le_refl _,rfl⟩
 obtain⟨i,q,out,n,e,hi,hrun,hn,hnb,hm⟩:=hI
 subst e hm
 have hq:okQ q:=by have:=(XDL (XDw s i) (XI9 0 0 0 0) (XHe s i)).1;rw [hrun]at this;exact this
 refine CD.seq (CD.region ?_)
 refine OD.rE 1 [(0,.str s),(3,.loc 0 0),(4,.row 1 0 n n),(7,.i64 s.size),(8,.i64 i),(9,.bool (decide ((((i:Nat):Int):Int)<((s.size:Nat):Int))))] ?_
 refine OD.nil (CD.seq ?_)
 refine CD.condP rfl (fun h1=>?_) (fun h1=>?_)
 ·
  refine CD.skip (CD.seq (CD.block (CD.seq (CD.region ?_))))
  refine OD.rE 2 [(0,.str s),(3,.loc 0 0),(4,.row 1 0 n n),(5,.i64 i),(7,.i64 s.size),(8,.i64 i)] ?_
  refine OD.nil (CD.region ?_)
  refine OD.rE 3 [(0,.str s),(3,.loc 0 0),(7,.i64 s.size),(8,.i64 i),(11,.row 1 0 n n),(12,.str s),(13,.i64 i)] ?_
  refine OD.ixS (i:=i) rfl rfl (by kernel_rfl) (by omega) (by omega) (fun hb1=>?_)
  refine OD.rE 0 [(0,.str s),(3,.loc 0 0),(7,.i64 s.size),(8,.i64 i),(11,.row 1 0 n n),(14,.int .u8 ((sB s i:Nat):Int))] ?_
  refine OD.cO [0] [.loc 0 0,.int .u8 ((sB s i:Nat):Int)] (XFE q (sB s i) (XBO _ _) hq) (fun r L1 hr=>?_)
  obtain⟨rfl,rfl⟩:=hr
  have hpl:=(X9f hq (XBO s i)).2.2
  refine OD.rE 0 [(0,.str s),(3,.loc 0 0),(7,.i64 s.size),(8,.i64 i),(11,.row 1 0 n n),(15,.sl 1 ((X3E q (sB s i)).1.length) (((X3E q (sB s i)).1).map (D.int .i32)))] ?_
  refine OD.appV' (f:=(D.int .i32)) (xs:=out) (vs:=(X3E q (sB s i)).1) rfl (by kernel_rfl) rfl rfl rfl rfl rfl (by first | omega | (simp<;>omega)) (by omega) ?_
  refine OD.rE 1 [(0,.str s),(3,.loc 0 0),(4,.row 1 0 (n+(X3E q (sB s i)).1.length) (n+(X3E q (sB s i)).1.length)),(7,.i64 s.size),(8,.i64 i)] ?_
  refine OD.nil (CD.region ?_)
  refine OD.rE 1 [(0,.str s),(3,.loc 0 0),(4,.row 1 0 (n+(X3E q (sB s i)).1.length) (n+(X3E q (sB s i)).1.length)),(7,.i64 s.size),(17,.i64 (X05 .i64 (((i:Nat):Int)+1)))] ?_
  refine OD.is 17 rfl (wrn (m:=i+1) (by omega) (by omega)) ?_
  refine OD.rE 1 [(0,.str s),(3,.loc 0 0),(4,.row 1 0 (n+(X3E q (sB s i)).1.length) (n+(X3E q (sB s i)).1.length)),(7,.i64 s.size),(8,.i64 ((i+1:Nat):Int))] ?_
  refine OD.nil ?_
  exact⟨_,by omega,i+1,(X3E q (sB s i)).2,(out++(X3E q (sB s i)).1),n+(X3E q (sB s i)).1.length,(by kernel_rfl),by omega,XFD hrun,by rw [List.length_append,hn],by omega,rfl⟩
 ·
  refine CD.exit ?_
  refine CD.seq (CD.region ?_)
  refine OD.rE 1 [(3,.loc 0 0),(18,.row 1 0 n n)] ?_
  refine OD.cO [0] [.loc 0 0] (XJ2 q) (fun r L1 hr=>?_)
  obtain⟨rfl,rfl⟩:=hr
  have hpl:=XDN q
  refine OD.rE 0 [(18,.row 1 0 n n),(19,.sl 1 ((X6s q).1.length) (((X6s q).1).map (D.int .i32)))] ?_
  refine OD.appV' (f:=(D.int .i32)) (xs:=out) (vs:=(X6s q).1) rfl (by kernel_rfl) rfl rfl rfl rfl rfl (by first | omega | (simp<;>omega)) (by omega) ?_
  refine OD.rE 1 [(2,.row 1 0 (n+(X6s q).1.length) (n+(X6s q).1.length))] ?_
  refine OD.nil ?_
  refine CD.freeze 2 rfl rfl (Nat.le_refl _) ?_
  refine CD.ret ?_
  (try dsimp only);first | refine X01 ?_ | refine X02 ?_
  exact rO 0 (.sl 1 (n+(X6s q).1.length) ((out++(X6s q).1).map (D.int .i32))) [] (⟨XHf hrun hn (by omega),rfl⟩)
end
end Go.Proofs.YtiebldaihnbkmaaGreatDoor

/-
  What is proved here: where a byte is in the text of the signs of a meaning; the last byte of a sign's bytes (part PEa). what functions of the pattern's package come to (walks that a program of mine has printed). what functions of the pattern's package come to (walks that a program of mine has printed). the reader's functions, so deep as may be. No conditions but those that the theorems state.
-/
import Derived.Test.YtiebldaihnbkmaaGreatDoorPB
import Derived.Test.YtiebldaihnbkmaaGreatDoorRM
import Derived.Test.YtiebldaihnbkmaaGreatDoorRI
set_option linter.unusedVariables false
set_option linter.unusedSimpArgs false
set_option maxRecDepth 100000
namespace Go.Proofs.YtiebldaihnbkmaaGreatDoor
open Go.Vai Go.Nfa
noncomputable section
abbrev X06:ByteArray:=⟨#[124,42,43,63,123,125,40,41,91,93,46,94,36,92]⟩
def zOf (s:ByteArray) (c:Int):Int:=match X5H Tryz.prog (callFunc 140 #[.string s,.int .u8 c])with
 | some (.value (.int .i64 z))=>z
 | _=>0
def XFc (s:ByteArray) (c:Int):Bool:=match X5H Tryz.prog (callFunc 140 #[.string s,.int .u8 c])with
 | some (.value (.int .i64 _))=>true
 | _=>false
theorem XGS {s:ByteArray} {c:Int} (h:XFc s c=true):X5H P (callFunc 140 #[.string s,.int .u8 c])=some (.value (.int .i64 (zOf s c))):=by
 unfold XFc at h
 unfold zOf
 split at h
 · rename_i z e;rw [show P=Tryz.prog from rfl,e]
 · cases h
theorem tab1:((List.range 128).all fun c=>XFc X06 (Int.ofNat c) && (match decide (0≤zOf X06 (Int.ofNat c)),specB (Int.ofNat c)with | true,true=>true | false,false=>true | _,_=>false))=true:=by kernel_rfl
theorem tab2:((List.range 3).all fun i=>(List.range 128).all fun c=>XFc (X06.extract (i+1+1) X06.size) (Int.ofNat (c+128)) && decide (zOf (X06.extract (i+1+1) X06.size) (Int.ofNat (c+128))<0))=true:=by kernel_rfl
theorem XFd {r:Int} (h0:0≤r) (h1:r<128):XFc X06 r=true∧decide (0≤zOf X06 r)=specB r:=by
 obtain⟨n,rfl⟩:∃ n:Nat,r=Int.ofNat n:=⟨r.toNat,by simp only [Int.ofNat_eq_natCast];omega⟩
 have h:=List.all_eq_true.1 tab1 n (List.mem_range.2 (by simp only [Int.ofNat_eq_natCast]at h1;omega))
 rw [Bool.and_eq_true]at h
 refine⟨h.1,?_⟩
 have h2:=h.2
 cases ha:decide (0≤zOf X06 (Int.ofNat n))<;>cases hb:specB (Int.ofNat n)<;>rw [ha,hb]at h2<;>first | rfl | cases h2
theorem XGT {m c:Nat} (h0:1≤m) (h1:m≤3) (h2:128≤c) (h3:c<256):XFc (X06.extract (m+1) X06.size) (c:Int)=true∧zOf (X06.extract (m+1) X06.size) (c:Int)<0:=by
 have h:=List.all_eq_true.1 (List.all_eq_true.1 tab2 (m - 1) (List.mem_range.2 (by omega))) (c - 128) (List.mem_range.2 (by omega))
 rw [Bool.and_eq_true,decide_eq_true_eq]at h
 rw [show m - 1+1=m by omega,show c - 128+128=c by omega]at h
 exact h
theorem XEJ {r:Int} (h:X1l r=true) (h1:128≤r):∃ m,(Utf8.encode r).size=m+1∧1≤m∧m≤3∧128≤sB (Utf8.encode r) m:=by
 have hv:Utf8.valid r=true:=by
  simp only [X1l,X25,Bool.and_eq_true,Bool.or_eq_true,decide_eq_true_eq]at h
  simp only [Utf8.valid,Bool.and_eq_true,Bool.or_eq_true,decide_eq_true_eq]
  omega
 have hr:r≤1114111:=by
  simp only [X1l,X25,Bool.and_eq_true,Bool.or_eq_true,decide_eq_true_eq]at h;omega
 have lastb:∀ n:Nat,128≤(UInt8.ofNat (0x80+n % 64)).toNat:=by
  intro n
  rw [UInt8.toNat_ofNat'];omega
 unfold Utf8.encode
 simp only [hv,if_true]
 rw [if_neg (by omega)]
 split
 · exact⟨1,rfl,by decide,by decide,lastb _⟩
 ·
  split
  · exact⟨2,rfl,by decide,by decide,lastb _⟩
  · exact⟨3,rfl,by decide,by decide,lastb _⟩
def ixR (r:Int):Int:=if r<128 then zOf X06 r else -1
theorem XEK {r:Int} (h:X1l r=true):decide (0≤ixR r)=specB r:=by
 have h0:0≤r:=by simp only [X1l,X25,Bool.and_eq_true,Bool.or_eq_true,decide_eq_true_eq]at h;omega
 unfold ixR
 split
 · rename_i h1;exact(XFd h0 h1).2
 ·
  rename_i h1
  rw [decide_eq_false (by decide)]
  symm
  simp only [specB,List.mem_cons,List.not_mem_nil,or_false,decide_eq_false_iff_not]
  omega
theorem XIR (m:Nat) (h0:1≤m) (h1:m≤3):sB X06 m<128:=by
 rcases(by omega:m=1∨m=2∨m=3)with rfl | rfl | rfl<;>decide
theorem XIS {r:Int} (h:X1l r=true):0≤r:=by
 simp only [X1l,X25,Bool.and_eq_true,Bool.or_eq_true,decide_eq_true_eq]at h;omega
theorem XGU {r:Int} (h:X1l r=true):¬ r=65533:=by
 simp only [X1l,Bool.and_eq_true,decide_eq_true_eq]at h;exact h.2
end
end Go.Proofs.YtiebldaihnbkmaaGreatDoor
set_option maxRecDepth 100000
set_option maxHeartbeats 4000000
namespace Go.Proofs.YtiebldaihnbkmaaGreatDoor
open Go.Vai Go.Nfa
noncomputable section
theorem XIT (N:Nat) (hN0:N≤1000000) (row:Rdr) (hP:∀ s b,okS s→s.length≤N→FnD P ov 75 [.loc 0 0] [X0I s b] (X2j (row s b))) (hp:Shr row) (s:List Int) (b:Bool) (hs:okS s) (hN:s.length≤N):FnD P ov 56 [.loc 0 0] [X0I s b] (X2j (XBj row s b)):=by
 refine FnD.intro (by kernel_rfl) (fn:=Tryz.f56) (by kernel_rfl) rfl (by kernel_rfl) fun M a0 g0 hg0=>?_
 refine CD.seq (CD.region ?_)
 refine OD.rL 1 [(0,.loc 0 0),(2,.loc 1 0)] [X0I s b,.box [.i64 0,.lit (.slice none 0 0),.bool false,.lit (.slice none 0 0),.i64 0,.i64 0]] ?_
 refine OD.nil (CD.seq (CD.region ?_))
 refine OD.rE 1 [(0,.loc 0 0),(2,.loc 1 0),(4,.loc 0 0)] ?_
 refine OD.cO [0] [.loc 0 0] (hP s b hs (by omega)) (fun r L1 hr=>?_)
 obtain⟨rfl,rfl⟩:=hr
 refine OD.rE 0 [(0,.loc 0 0),(2,.loc 1 0),(5,.agg (X11 ((row s b).1)))] ?_
 refine OD.bslR (e:=6) (cs:=X11 ((row s b).1)) rfl (by kernel_rfl) ?_
 refine OD.rowIs 2 rfl (XEG ((row s b).1)) ?_
 refine OD.rE 1 [(0,.loc 0 0),(2,.loc 1 0),(3,.row 2 0 1 1)] ?_
 refine OD.nil (CD.seq (CD.block ?_))
 refine CD.weak [0,2,3] 3 (E':=[(0,.loc 0 0),(2,.loc 1 0),(3,.row 2 0 1 1)]) (by kernel_rfl) (by simp [hg0]) (by kernel_rfl) ?_
 refine CD.loop (fun m σ=>∃ (s1:List Int) (b1:Bool) (ks:List Nd) (n:Nat) (f:Nat),σ=⟨[(0,.loc 0 0),(2,.loc 1 0),(3,.row 2 0 n n)],[X0I s1 b1,.box [.i64 0,.lit (.slice none 0 0),.bool false,.lit (.slice none 0 0),.i64 0,.i64 0],.row 6 n (ks.flatMap X43)]⟩∧(X5Y row s.length [(row s b).1] (row s b).2.1 (row s b).2.2=X5Y row f ks s1 b1)∧(b1=false→s1.length≤f)∧(okS s1)∧(ks.length=n)∧(n+s1.length≤s.length+1)∧m=f+1) (fun m σ hI=>?_) _ ⟨(row s b).2.1,(row s b).2.2,[(row s b).1],1,s.length,(by kernel_rfl),rfl,fun _=>(hp s b).length_le,hs.sfx (hp s b),rfl,by have:=(hp s b).length_le;omega,rfl⟩
 obtain⟨s1,b1,ks,n,f,e,hr,hf,hs1,hn,hl,hm⟩:=hI
 subst e hm
 refine CD.seq (CD.seq (CD.region ?_))
 refine OD.rE 6 [(0,.loc 0 0),(2,.loc 1 0),(3,.row 2 0 n n),(12,.bool (!b1))] ?_
 refine OD.ifB 12 rfl (fun h1=>?_) (fun h1=>?_)
 ·
  have h1:=XD2 h1
  refine OD.rE 1 [(0,.loc 0 0),(2,.loc 1 0),(3,.row 2 0 n n),(12,.bool true),(13,.loc 0 0)] ?_
  refine OD.guard rfl rfl ?_
  refine OD.cO [0] [.loc 0 0,.int .i32 124] (X4y s1 b1 124 (by decide)) (fun r L1 hr=>?_)
  rcases hr with⟨hi2,rfl,rfl⟩ | ⟨hi2,rfl,rfl⟩
  ·
   refine OD.rE 1 [(0,.loc 0 0),(2,.loc 1 0),(3,.row 2 0 n n),(15,.bool true)] ?_
   refine OD.nil ?_
   refine CD.condT rfl ?_
   refine CD.skip (CD.block (CD.region ?_))
   refine OD.rE 2 [(0,.loc 0 0),(2,.loc 1 0),(16,.row 2 0 n n),(17,.loc 0 0)] ?_
   refine OD.cO [0] [.loc 0 0] (hP s1.tail b1 hs1.tl (by have:=X3h (s:=s1) (by omega);omega)) (fun r L1 hr=>?_)
   obtain⟨rfl,rfl⟩:=hr
   refine OD.rE 0 [(0,.loc 0 0),(2,.loc 1 0),(16,.row 2 0 n n),(18,.agg (X11 ((row s1.tail b1).1)))] ?_
   refine OD.bsl (e:=6) (cs:=X11 ((row s1.tail b1).1)) rfl (by kernel_rfl) ?_
   refine OD.rE 0 [(0,.loc 0 0),(2,.loc 1 0),(16,.row 2 0 n n),(19,.sl 6 1 (X11 ((row s1.tail b1).1)))] ?_
   refine OD.appE (enc:=X43) (xs:=ks) (vs:=[((row s1.tail b1).1)]) rfl (by kernel_rfl) rfl rfl rfl (XEG ((row s1.tail b1).1)) X2L (by first | omega | (simp<;>omega)) (by decide) (by omega) (by omega) ?_
   refine OD.rE 1 [(0,.loc 0 0),(2,.loc 1 0),(3,.row 2 0 (n+1) (n+1))] ?_
   refine OD.nil ?_
   have hlt:=(hp s1.tail b1).length_le
   have hle:=X3h (s:=s1) (by omega)
   have hff:=hf h1
   exact⟨_,by omega,((row s1.tail b1).2.1),(row s1.tail b1).2.2,(ks++[((row s1.tail b1).1)]),n+1,f - 1,(by kernel_rfl),hr.trans (XGM h1 hi2 hf),fun e=>by omega,hs1.tl.sfx (hp s1.tail b1),by rw [List.length_append,hn];rfl,by omega,rfl⟩
  ·
   refine OD.rE 1 [(0,.loc 0 0),(2,.loc 1 0),(3,.row 2 0 n n),(15,.bool false)] ?_
   refine OD.nil ?_
   refine CD.condF rfl ?_
   refine CD.exit ?_
   refine CD.seq (CD.region ?_)
   refine OD.freeze 3 rfl rfl (Nat.le_refl _) ?_
   refine OD.rE 1 [(2,.loc 1 0),(21,.sl 6 n (ks.flatMap X43))] ?_
   refine OD.cE (XGR 4 ks n (by assumption)) ?_
   refine OD.rL 1 [(2,.loc 1 0)] [X0I s1 b1,.box (X11 (ofN 4 ks)),.dead] ?_
   refine OD.nil (CD.ret ?_)
   (try dsimp only);first | refine X01 ?_ | refine X02 ?_
   exact rO 1 (.agg (X11 (ofN 4 ks))) [X0I s1 b1] (XAB hr (by simp [h1,hi2]) hn)
 ·
  have h1:=XD3 h1
  refine OD.rE 3 [(0,.loc 0 0),(2,.loc 1 0),(3,.row 2 0 n n),(15,.bool false)] ?_
  refine OD.nil ?_
  refine CD.condF rfl ?_
  refine CD.exit ?_
  refine CD.seq (CD.region ?_)
  refine OD.freeze 3 rfl rfl (Nat.le_refl _) ?_
  refine OD.rE 1 [(2,.loc 1 0),(21,.sl 6 n (ks.flatMap X43))] ?_
  refine OD.cE (XGR 4 ks n (by assumption)) ?_
  refine OD.rL 1 [(2,.loc 1 0)] [X0I s1 b1,.box (X11 (ofN 4 ks)),.dead] ?_
  refine OD.nil (CD.ret ?_)
  (try dsimp only);first | refine X01 ?_ | refine X02 ?_
  exact rO 1 (.agg (X11 (ofN 4 ks))) [X0I s1 b1] (XAB hr (by simp [h1]) hn)
theorem XEL (N:Nat) (hN0:N≤1000000) (atom:Rdr) (hP:∀ s b,okS s→s.length≤N→FnD P ov 111 [.loc 0 0] [X0I s b] (X2j (atom s b))) (s:List Int) (b:Bool) (hs:okS s) (hN:s.length≤N):FnD P ov 98 [.loc 0 0] [X0I s b] (X2j (X1T atom s b)):=by
 refine FnD.intro (by kernel_rfl) (fn:=Tryz.f98) (by kernel_rfl) rfl (by kernel_rfl) fun M a0 g0 hg0=>?_
 refine CD.seq (CD.region ?_)
 refine OD.rL 1 [(0,.loc 0 0),(2,.loc 1 0)] [X0I s b,.box [.i64 0,.lit (.slice none 0 0),.bool false,.lit (.slice none 0 0),.i64 0,.i64 0]] ?_
 refine OD.nil (CD.seq (CD.region ?_))
 refine OD.rE 1 [(0,.loc 0 0),(2,.loc 1 0),(8,.loc 0 0)] ?_
 refine OD.cO [0] [.loc 0 0] (X36 s b) (fun r L1 hr=>?_)
 obtain⟨rfl,rfl⟩:=hr
 refine OD.rE 1 [(0,.loc 0 0),(2,.loc 1 0),(3,.int .i32 (nx s))] ?_
 refine OD.nil (CD.seq (CD.region ?_))
 refine OD.rE 1 [(0,.loc 0 0),(2,.loc 1 0),(3,.int .i32 (nx s)),(10,.loc 0 0)] ?_
 refine OD.cO [0] [.loc 0 0] (hP s b hs (by omega)) (fun r L1 hr=>?_)
 obtain⟨rfl,rfl⟩:=hr
 refine OD.rL 2 [(0,.loc 0 0),(2,.loc 1 0),(3,.int .i32 (nx s)),(4,.loc 2 0)] [X0I ((atom s b).2.1) (atom s b).2.2,.box [.i64 0,.lit (.slice none 0 0),.bool false,.lit (.slice none 0 0),.i64 0,.i64 0],.box (X11 ((atom s b).1))] ?_
 refine OD.nil (CD.seq (CD.region ?_))
 refine OD.rE 1 [(0,.loc 0 0),(2,.loc 1 0),(3,.int .i32 (nx s)),(4,.loc 2 0),(13,.loc 0 0)] ?_
 refine OD.cO [0] [.loc 0 0] (XC7 ((atom s b).2.1) (atom s b).2.2) (fun r L1 hr=>?_)
 obtain⟨rfl,rfl⟩:=hr
 refine OD.rE 7 [(0,.loc 0 0),(2,.loc 1 0),(3,.int .i32 (nx s)),(4,.loc 2 0),(5,.i64 ((X0t ((atom s b).2.1) (atom s b).2.2).1.1)),(6,.i64 ((X0t ((atom s b).2.1) (atom s b).2.2).1.2.1)),(7,.bool (X0t ((atom s b).2.1) (atom s b).2.2).1.2.2)] ?_
 refine OD.nil (CD.seq (CD.seq (CD.region ?_)))
 refine OD.rE 2 [(0,.loc 0 0),(2,.loc 1 0),(3,.int .i32 (nx s)),(4,.loc 2 0),(5,.i64 ((X0t ((atom s b).2.1) (atom s b).2.2).1.1)),(6,.i64 ((X0t ((atom s b).2.1) (atom s b).2.2).1.2.1)),(19,.bool (!(X0t ((atom s b).2.1) (atom s b).2.2).1.2.2))] ?_
 refine OD.nil ?_
 refine CD.condB rfl (fun h1=>?_) (fun h1=>?_)
 ·
  have h1:=XD2 h1
  refine CD.seq (CD.region ?_)
  refine OD.rL 2 [(2,.loc 1 0)] [X0I ((X0t ((atom s b).2.1) (atom s b).2.2).2.1) (X0t ((atom s b).2.1) (atom s b).2.2).2.2,.box (X11 ((atom s b).1)),.box (X11 ((atom s b).1))] ?_
  refine OD.nil (CD.ret ?_)
  (try dsimp only);first | refine X01 ?_ | refine X02 ?_
  exact rO 1 (.agg (X11 ((atom s b).1))) [X0I ((X0t ((atom s b).2.1) (atom s b).2.2).2.1) (X0t ((atom s b).2.1) (atom s b).2.2).2.2] (XEI h1)
 ·
  have h1:=XD3 h1
  refine CD.skip (CD.seq (CD.seq (CD.region ?_)))
  refine OD.rE 3 [(0,.loc 0 0),(2,.loc 1 0),(3,.int .i32 (nx s)),(4,.loc 2 0),(5,.i64 ((X0t ((atom s b).2.1) (atom s b).2.2).1.1)),(6,.i64 ((X0t ((atom s b).2.1) (atom s b).2.2).1.2.1)),(23,.bool (decide (((nx s):Int)=94)))] ?_
  refine OD.ifP 23 rfl (fun h2=>?_) (fun h2=>?_)
  ·
   refine OD.rE 3 [(0,.loc 0 0),(2,.loc 1 0),(4,.loc 2 0),(5,.i64 ((X0t ((atom s b).2.1) (atom s b).2.2).1.1)),(6,.i64 ((X0t ((atom s b).2.1) (atom s b).2.2).1.2.1)),(26,.bool true)] ?_
   refine OD.nil ?_
   refine CD.condT rfl ?_
   refine CD.region ?_
   refine OD.rL 4 [(2,.loc 1 0),(4,.loc 2 0),(5,.i64 ((X0t ((atom s b).2.1) (atom s b).2.2).1.1)),(6,.i64 ((X0t ((atom s b).2.1) (atom s b).2.2).1.2.1))] [X0I ((X0t ((atom s b).2.1) (atom s b).2.2).2.1) true,.box [.i64 0,.lit (.slice none 0 0),.bool false,.lit (.slice none 0 0),.i64 0,.i64 0],.box (X11 ((atom s b).1))] ?_
   refine OD.nil (CD.seq (CD.region ?_))
   refine OD.rE 1 [(2,.loc 1 0),(5,.i64 ((X0t ((atom s b).2.1) (atom s b).2.2).1.1)),(6,.i64 ((X0t ((atom s b).2.1) (atom s b).2.2).1.2.1)),(30,.agg (X11 ((atom s b).1)))] ?_
   refine OD.bsl (e:=6) (cs:=X11 ((atom s b).1)) rfl (by kernel_rfl) ?_
   refine OD.rE 3 [(2,.loc 1 0),(34,.agg [.i64 5,.lit (.slice none 0 0),.bool false,.sl 6 1 (X11 ((atom s b).1)),.i64 ((X0t ((atom s b).2.1) (atom s b).2.2).1.1),.i64 ((X0t ((atom s b).2.1) (atom s b).2.2).1.2.1)])] ?_
   refine OD.reNil 34 [0,2,0,0,0,0] (ds':=[.i64 5,.sl 2 0 ([]),.bool false,.sl 6 1 (X11 ((atom s b).1)),.i64 ((X0t ((atom s b).2.1) (atom s b).2.2).1.1),.i64 ((X0t ((atom s b).2.1) (atom s b).2.2).1.2.1)]) rfl (by kernel_rfl) ?_
   refine OD.rL 1 [(2,.loc 1 0)] [X0I ((X0t ((atom s b).2.1) (atom s b).2.2).2.1) true,.box [.i64 5,.sl 2 0 ([]),.bool false,.sl 6 1 (X11 ((atom s b).1)),.i64 ((X0t ((atom s b).2.1) (atom s b).2.2).1.1),.i64 ((X0t ((atom s b).2.1) (atom s b).2.2).1.2.1)],.box (X11 ((atom s b).1))] ?_
   refine OD.nil (CD.ret ?_)
   (try dsimp only);first | refine X01 ?_ | refine X02 ?_
   exact rO 1 (.agg [.i64 5,.sl 2 0 ([]),.bool false,.sl 6 1 (X11 ((atom s b).1)),.i64 ((X0t ((atom s b).2.1) (atom s b).2.2).1.1),.i64 ((X0t ((atom s b).2.1) (atom s b).2.2).1.2.1)]) [X0I ((X0t ((atom s b).2.1) (atom s b).2.2).2.1) true] (X5P (by first | exact h1 | simpa using h1) (by first | (rw [decide_eq_true (by omega),Bool.or_true]) | (rw [decide_eq_false (by omega),Bool.or_false])))
  ·
   refine OD.rE 3 [(0,.loc 0 0),(2,.loc 1 0),(4,.loc 2 0),(5,.i64 ((X0t ((atom s b).2.1) (atom s b).2.2).1.1)),(6,.i64 ((X0t ((atom s b).2.1) (atom s b).2.2).1.2.1)),(26,.bool (decide (((nx s):Int)=36)))] ?_
   refine OD.nil ?_
   refine CD.condP rfl (fun h3=>?_) (fun h3=>?_)
   ·
    refine CD.region ?_
    refine OD.rL 4 [(2,.loc 1 0),(4,.loc 2 0),(5,.i64 ((X0t ((atom s b).2.1) (atom s b).2.2).1.1)),(6,.i64 ((X0t ((atom s b).2.1) (atom s b).2.2).1.2.1))] [X0I ((X0t ((atom s b).2.1) (atom s b).2.2).2.1) true,.box [.i64 0,.lit (.slice none 0 0),.bool false,.lit (.slice none 0 0),.i64 0,.i64 0],.box (X11 ((atom s b).1))] ?_
    refine OD.nil (CD.seq (CD.region ?_))
    refine OD.rE 1 [(2,.loc 1 0),(5,.i64 ((X0t ((atom s b).2.1) (atom s b).2.2).1.1)),(6,.i64 ((X0t ((atom s b).2.1) (atom s b).2.2).1.2.1)),(30,.agg (X11 ((atom s b).1)))] ?_
    refine OD.bsl (e:=6) (cs:=X11 ((atom s b).1)) rfl (by kernel_rfl) ?_
    refine OD.rE 3 [(2,.loc 1 0),(34,.agg [.i64 5,.lit (.slice none 0 0),.bool false,.sl 6 1 (X11 ((atom s b).1)),.i64 ((X0t ((atom s b).2.1) (atom s b).2.2).1.1),.i64 ((X0t ((atom s b).2.1) (atom s b).2.2).1.2.1)])] ?_
    refine OD.reNil 34 [0,2,0,0,0,0] (ds':=[.i64 5,.sl 2 0 ([]),.bool false,.sl 6 1 (X11 ((atom s b).1)),.i64 ((X0t ((atom s b).2.1) (atom s b).2.2).1.1),.i64 ((X0t ((atom s b).2.1) (atom s b).2.2).1.2.1)]) rfl (by kernel_rfl) ?_
    refine OD.rL 1 [(2,.loc 1 0)] [X0I ((X0t ((atom s b).2.1) (atom s b).2.2).2.1) true,.box [.i64 5,.sl 2 0 ([]),.bool false,.sl 6 1 (X11 ((atom s b).1)),.i64 ((X0t ((atom s b).2.1) (atom s b).2.2).1.1),.i64 ((X0t ((atom s b).2.1) (atom s b).2.2).1.2.1)],.box (X11 ((atom s b).1))] ?_
    refine OD.nil (CD.ret ?_)
    (try dsimp only);first | refine X01 ?_ | refine X02 ?_
    exact rO 1 (.agg [.i64 5,.sl 2 0 ([]),.bool false,.sl 6 1 (X11 ((atom s b).1)),.i64 ((X0t ((atom s b).2.1) (atom s b).2.2).1.1),.i64 ((X0t ((atom s b).2.1) (atom s b).2.2).1.2.1)]) [X0I ((X0t ((atom s b).2.1) (atom s b).2.2).2.1) true] (X5P (by first | exact h1 | simpa using h1) (by first | (rw [decide_eq_true (by omega),Bool.or_true]) | (rw [decide_eq_false (by omega),Bool.or_false])))
   ·
    refine CD.skip (CD.seq (CD.region ?_))
    refine OD.rE 1 [(2,.loc 1 0),(5,.i64 ((X0t ((atom s b).2.1) (atom s b).2.2).1.1)),(6,.i64 ((X0t ((atom s b).2.1) (atom s b).2.2).1.2.1)),(30,.agg (X11 ((atom s b).1)))] ?_
    refine OD.bsl (e:=6) (cs:=X11 ((atom s b).1)) rfl (by kernel_rfl) ?_
    refine OD.rE 3 [(2,.loc 1 0),(34,.agg [.i64 5,.lit (.slice none 0 0),.bool false,.sl 6 1 (X11 ((atom s b).1)),.i64 ((X0t ((atom s b).2.1) (atom s b).2.2).1.1),.i64 ((X0t ((atom s b).2.1) (atom s b).2.2).1.2.1)])] ?_
    refine OD.reNil 34 [0,2,0,0,0,0] (ds':=[.i64 5,.sl 2 0 ([]),.bool false,.sl 6 1 (X11 ((atom s b).1)),.i64 ((X0t ((atom s b).2.1) (atom s b).2.2).1.1),.i64 ((X0t ((atom s b).2.1) (atom s b).2.2).1.2.1)]) rfl (by kernel_rfl) ?_
    refine OD.rL 1 [(2,.loc 1 0)] [X0I ((X0t ((atom s b).2.1) (atom s b).2.2).2.1) (X0t ((atom s b).2.1) (atom s b).2.2).2.2,.box [.i64 5,.sl 2 0 ([]),.bool false,.sl 6 1 (X11 ((atom s b).1)),.i64 ((X0t ((atom s b).2.1) (atom s b).2.2).1.1),.i64 ((X0t ((atom s b).2.1) (atom s b).2.2).1.2.1)],.box (X11 ((atom s b).1))] ?_
    refine OD.nil (CD.ret ?_)
    (try dsimp only);first | refine X01 ?_ | refine X02 ?_
    exact rO 1 (.agg [.i64 5,.sl 2 0 ([]),.bool false,.sl 6 1 (X11 ((atom s b).1)),.i64 ((X0t ((atom s b).2.1) (atom s b).2.2).1.1),.i64 ((X0t ((atom s b).2.1) (atom s b).2.2).1.2.1)]) [X0I ((X0t ((atom s b).2.1) (atom s b).2.2).2.1) (X0t ((atom s b).2.1) (atom s b).2.2).2.2] (X5P (by first | exact h1 | simpa using h1) (by first | (rw [decide_eq_true (by omega),Bool.or_true]) | (rw [decide_eq_false (by omega),Bool.or_false])))
theorem XIU (s:List Int) (b:Bool) (hN:s.length≤1000000):FnD P ov 121 [.loc 0 0] [X0I s b] (X2j (X8C s b)):=by
 refine FnD.intro (by kernel_rfl) (fn:=Tryz.f121) (by kernel_rfl) rfl (by kernel_rfl) fun M a0 g0 hg0=>?_
 refine CD.seq (CD.region ?_)
 refine OD.rL 1 [(0,.loc 0 0),(2,.loc 1 0)] [X0I s b,.box [.i64 0,.lit (.slice none 0 0),.bool false,.lit (.slice none 0 0),.i64 0,.i64 0]] ?_
 refine OD.nil (CD.seq (CD.region ?_))
 refine OD.rE 1 [(0,.loc 0 0),(2,.loc 1 0),(5,.loc 0 0)] ?_
 refine OD.cO [0] [.loc 0 0,.int .i32 94] (XIP s b 94 (by decide)) (fun r L1 hr=>?_)
 obtain⟨rfl,rfl⟩:=hr
 refine OD.rE 1 [(0,.loc 0 0),(2,.loc 1 0),(7,.agg [.i64 2,.lit (.slice none 0 0),.bool (decide (nx s=94)),.lit (.slice none 0 0),.i64 0,.i64 0])] ?_
 refine OD.reNil 7 [0,0,0,6,0,0] (ds':=[.i64 2,.lit (.slice none 0 0),.bool (decide (nx s=94)),.sl 6 0 ([]),.i64 0,.i64 0]) rfl (by kernel_rfl) ?_
 refine OD.rL 2 [(0,.loc 0 0),(2,.loc 1 0),(3,.loc 2 0)] [X0I (isR 94 s) b,.box [.i64 0,.lit (.slice none 0 0),.bool false,.lit (.slice none 0 0),.i64 0,.i64 0],.box [.i64 2,.lit (.slice none 0 0),.bool (decide (nx s=94)),.sl 6 0 ([]),.i64 0,.i64 0]] ?_
 refine OD.nilRowB 2 1 2 rfl rfl ?_
 refine OD.rE 0 [(0,.loc 0 0),(2,.loc 1 0),(3,.loc 2 0)] ?_
 refine OD.nil (CD.seq (CD.block ?_))
 refine CD.weak [0,2,3] 4 (E':=[(0,.loc 0 0),(2,.loc 1 0),(3,.loc 2 0)]) (by kernel_rfl) (by simp [hg0]) (by kernel_rfl) ?_
 refine CD.loop (fun m σ=>∃ (s1:List Int) (b1:Bool) (l:List (Int×Int)) (n:Nat) (f:Nat),σ=⟨[(0,.loc 0 0),(2,.loc 1 0),(3,.loc 2 0)],[X0I s1 b1,.box [.i64 0,.lit (.slice none 0 0),.bool false,.lit (.slice none 0 0),.i64 0,.i64 0],.box [.i64 2,.row 3 0 n n,.bool (decide (nx s=94)),.sl 6 0 ([]),.i64 0,.i64 0],.row 2 n (l.flatMap X0s)]⟩∧(X6n ((isR 94 s).length+1) [] (isR 94 s) b=X6n f l s1 b1)∧(b1=false→s1.length<f)∧(l.length=n)∧(n+f≤s.length+1)∧m=f+1) (fun m σ hI=>?_) _ ⟨isR 94 s,b,([]:List (Int×Int)),0,(isR 94 s).length+1,(by kernel_rfl),rfl,fun _=>Nat.lt_succ_self _,rfl,by have:=(XCU 94 s).length_le;omega,rfl⟩
 obtain⟨s1,b1,l,n,f,e,hr,hf,hn,hl,hm⟩:=hI
 subst e hm
 refine CD.seq ?_
 refine CD.seqM (fun σ=>σ=⟨[(0,.loc 0 0),(2,.loc 1 0),(3,.loc 2 0),(17,.bool (decide (b1=false∧¬ nx s1=93)))],[X0I s1 b1,.box [.i64 0,.lit (.slice none 0 0),.bool false,.lit (.slice none 0 0),.i64 0,.i64 0],.box [.i64 2,.row 3 0 n n,.bool (decide (nx s=94)),.sl 6 0 ([]),.i64 0,.i64 0],.row 2 n (l.flatMap X0s)]⟩) ?_ (fun σ e=>?_)
 ·
  refine CD.region ?_
  refine OD.rE 6 [(0,.loc 0 0),(2,.loc 1 0),(3,.loc 2 0),(13,.bool (!b1))] ?_
  refine OD.ifB 13 rfl (fun h1=>?_) (fun h1=>?_)
  ·
   have h1:=XD2 h1
   refine OD.rE 1 [(0,.loc 0 0),(2,.loc 1 0),(3,.loc 2 0),(13,.bool true),(14,.loc 0 0)] ?_
   refine OD.guard rfl rfl ?_
   refine OD.cO [0] [.loc 0 0] (X36 s1 b1) (fun r L1 hr=>?_)
   obtain⟨rfl,rfl⟩:=hr
   refine OD.rE 2 [(0,.loc 0 0),(2,.loc 1 0),(3,.loc 2 0),(17,.bool (decide (¬ ((nx s1):Int)=93)))] ?_
   refine OD.nil ?_
   have hcut:decide (b1=false∧¬ nx s1=93)=(decide (¬ ((nx s1):Int)=93)):=by simp [h1]
   rw [hcut]<;>rfl
  ·
   have h1:=XD3 h1
   refine OD.rE 4 [(0,.loc 0 0),(2,.loc 1 0),(3,.loc 2 0),(17,.bool false)] ?_
   refine OD.nil ?_
   have hcut:decide (b1=false∧¬ nx s1=93)=false:=by simp [h1]
   rw [hcut]<;>rfl
 ·
  subst e
  refine CD.condP rfl (fun h2=>?_) (fun h2=>?_)
  ·
   refine CD.skip (CD.block (CD.seq (CD.region ?_)))
   refine OD.rE 1 [(0,.loc 0 0),(2,.loc 1 0),(3,.loc 2 0),(18,.loc 0 0)] ?_
   refine OD.cO [0] [.loc 0 0] (X83 s1 b1) (fun r L1 hr=>?_)
   obtain⟨rfl,rfl⟩:=hr
   refine OD.rL 3 [(0,.loc 0 0),(2,.loc 1 0),(3,.loc 2 0),(4,.loc 4 0)] [X0I ((X0J s1 b1).2.1) (X0J s1 b1).2.2,.box [.i64 0,.lit (.slice none 0 0),.bool false,.lit (.slice none 0 0),.i64 0,.i64 0],.box [.i64 2,.row 3 0 n n,.bool (decide (nx s=94)),.sl 6 0 ([]),.i64 0,.i64 0],.row 2 n (l.flatMap X0s),.box [.int .i32 ((X0J s1 b1).1),.int .i32 0]] ?_
   refine OD.nil (CD.seq (CD.region ?_))
   refine OD.rL 4 [(0,.loc 0 0),(2,.loc 1 0),(3,.loc 2 0),(4,.loc 4 0)] [X0I ((X0J s1 b1).2.1) (X0J s1 b1).2.2,.box [.i64 0,.lit (.slice none 0 0),.bool false,.lit (.slice none 0 0),.i64 0,.i64 0],.box [.i64 2,.row 3 0 n n,.bool (decide (nx s=94)),.sl 6 0 ([]),.i64 0,.i64 0],.row 2 n (l.flatMap X0s),.box [.int .i32 ((X0J s1 b1).1),.int .i32 ((X0J s1 b1).1)]] ?_
   refine OD.nil ?_
   refine CD.seqM (fun σ=>σ=⟨[(0,.loc 0 0),(2,.loc 1 0),(3,.loc 2 0),(4,.loc 4 0)],[X0I ((hiM (X0J s1 b1)).2.1) (hiM (X0J s1 b1)).2.2,.box [.i64 0,.lit (.slice none 0 0),.bool false,.lit (.slice none 0 0),.i64 0,.i64 0],.box [.i64 2,.row 3 0 n n,.bool (decide (nx s=94)),.sl 6 0 ([]),.i64 0,.i64 0],.row 2 n (l.flatMap X0s),.box [.int .i32 ((X0J s1 b1).1),.int .i32 ((hiM (X0J s1 b1)).1)]]⟩) ?_ (fun σ e=>?_)
   ·
    refine CD.seqM (fun σ=>σ=⟨[(0,.loc 0 0),(2,.loc 1 0),(3,.loc 2 0),(4,.loc 4 0),(47,.bool (decide (2≤(X0J s1 b1).2.1.length∧(X0J s1 b1).2.1.getD 0 0=45∧¬ (X0J s1 b1).2.1.getD 1 0=93)))],[X0I ((X0J s1 b1).2.1) (X0J s1 b1).2.2,.box [.i64 0,.lit (.slice none 0 0),.bool false,.lit (.slice none 0 0),.i64 0,.i64 0],.box [.i64 2,.row 3 0 n n,.bool (decide (nx s=94)),.sl 6 0 ([]),.i64 0,.i64 0],.row 2 n (l.flatMap X0s),.box [.int .i32 ((X0J s1 b1).1),.int .i32 ((X0J s1 b1).1)]]⟩) ?_ (fun σ e=>?_)
    ·
     refine CD.region ?_
     refine OD.rE 7 [(0,.loc 0 0),(2,.loc 1 0),(3,.loc 2 0),(4,.loc 4 0),(30,.bool (decide ((2:Int)≤((((X0J s1 b1).2.1).length:Nat):Int))))] ?_
     refine OD.ifP 30 rfl (fun h3=>?_) (fun h3=>?_)
     ·
      refine OD.rE 4 [(0,.loc 0 0),(2,.loc 1 0),(3,.loc 2 0),(4,.loc 4 0),(30,.bool true),(34,.sl 1 (((X0J s1 b1).2.1).length) (((X0J s1 b1).2.1).map (D.int .i32)))] ?_
      refine OD.guard rfl rfl ?_
      refine OD.idxSV (i:=0) rfl rfl (by kernel_rfl) (by omega) (by omega) ?_
      refine OD.rE 0 [(0,.loc 0 0),(2,.loc 1 0),(3,.loc 2 0),(4,.loc 4 0),(30,.bool true),(35,.ep 1 (((X0J s1 b1).2.1).length) (((X0J s1 b1).2.1).map (D.int .i32)) 0)] ?_
      refine OD.guard rfl rfl ?_
      refine OD.ldSV 0 (f:=(D.int .i32)) (xs:=((X0J s1 b1).2.1)) rfl (by kernel_rfl) (by first | omega | (simp<;>omega)) ?_
      refine OD.rE 3 [(0,.loc 0 0),(2,.loc 1 0),(3,.loc 2 0),(4,.loc 4 0),(39,.bool (decide (((((X0J s1 b1).2.1).getD 0 0):Int)=45)))] ?_
      refine OD.ifP 39 rfl (fun h4=>?_) (fun h4=>?_)
      ·
       refine OD.rE 4 [(0,.loc 0 0),(2,.loc 1 0),(3,.loc 2 0),(4,.loc 4 0),(39,.bool true),(43,.sl 1 (((X0J s1 b1).2.1).length) (((X0J s1 b1).2.1).map (D.int .i32)))] ?_
       refine OD.guard rfl rfl ?_
       refine OD.idxSV (i:=1) rfl rfl (by kernel_rfl) (by omega) (by omega) ?_
       refine OD.rE 0 [(0,.loc 0 0),(2,.loc 1 0),(3,.loc 2 0),(4,.loc 4 0),(39,.bool true),(44,.ep 1 (((X0J s1 b1).2.1).length) (((X0J s1 b1).2.1).map (D.int .i32)) 1)] ?_
       refine OD.guard rfl rfl ?_
       refine OD.ldSV 0 (f:=(D.int .i32)) (xs:=((X0J s1 b1).2.1)) rfl (by kernel_rfl) (by first | omega | (simp<;>omega)) ?_
       refine OD.rE 2 [(0,.loc 0 0),(2,.loc 1 0),(3,.loc 2 0),(4,.loc 4 0),(47,.bool (decide (¬ ((((X0J s1 b1).2.1).getD 1 0):Int)=93)))] ?_
       refine OD.nil ?_
       have hcut:decide (2≤(X0J s1 b1).2.1.length∧(X0J s1 b1).2.1.getD 0 0=45∧¬ (X0J s1 b1).2.1.getD 1 0=93)=(decide (¬ ((((X0J s1 b1).2.1).getD 1 0):Int)=93)):=decide_eq_decide.2 (by omega)
       rw [hcut]<;>rfl
      ·
       refine OD.rE 8 [(0,.loc 0 0),(2,.loc 1 0),(3,.loc 2 0),(4,.loc 4 0),(47,.bool false)] ?_
       refine OD.nil ?_
       have hcut:decide (2≤(X0J s1 b1).2.1.length∧(X0J s1 b1).2.1.getD 0 0=45∧¬ (X0J s1 b1).2.1.getD 1 0=93)=false:=decide_eq_false (by omega)
       rw [hcut]<;>rfl
     ·
      refine OD.rE 17 [(0,.loc 0 0),(2,.loc 1 0),(3,.loc 2 0),(4,.loc 4 0),(47,.bool false)] ?_
      refine OD.nil ?_
      have hcut:decide (2≤(X0J s1 b1).2.1.length∧(X0J s1 b1).2.1.getD 0 0=45∧¬ (X0J s1 b1).2.1.getD 1 0=93)=false:=decide_eq_false (by omega)
      rw [hcut]<;>rfl
    ·
     subst e
     refine CD.condP rfl (fun h5=>?_) (fun h5=>?_)
     ·
      refine CD.seq (CD.region ?_)
      refine OD.rE 1 [(0,.loc 0 0),(2,.loc 1 0),(3,.loc 2 0),(4,.loc 4 0),(48,.loc 0 0)] ?_
      refine OD.cO [0] [.loc 0 0] (X4R ((X0J s1 b1).2.1) (X0J s1 b1).2.2) (fun r L1 hr=>?_)
      obtain⟨rfl,rfl⟩:=hr
      refine OD.rE 0 [(0,.loc 0 0),(2,.loc 1 0),(3,.loc 2 0),(4,.loc 4 0)] ?_
      refine OD.nil (CD.region ?_)
      refine OD.rE 1 [(0,.loc 0 0),(2,.loc 1 0),(3,.loc 2 0),(4,.loc 4 0),(50,.loc 0 0)] ?_
      refine OD.cO [0] [.loc 0 0] (X83 ((tkM ((X0J s1 b1).2.1) (X0J s1 b1).2.2).2.1) (tkM ((X0J s1 b1).2.1) (X0J s1 b1).2.2).2.2) (fun r L1 hr=>?_)
      obtain⟨rfl,rfl⟩:=hr
      refine OD.rL 2 [(0,.loc 0 0),(2,.loc 1 0),(3,.loc 2 0),(4,.loc 4 0)] [X0I ((X0J ((tkM ((X0J s1 b1).2.1) (X0J s1 b1).2.2).2.1) (tkM ((X0J s1 b1).2.1) (X0J s1 b1).2.2).2.2).2.1) (X0J ((tkM ((X0J s1 b1).2.1) (X0J s1 b1).2.2).2.1) (tkM ((X0J s1 b1).2.1) (X0J s1 b1).2.2).2.2).2.2,.box [.i64 0,.lit (.slice none 0 0),.bool false,.lit (.slice none 0 0),.i64 0,.i64 0],.box [.i64 2,.row 3 0 n n,.bool (decide (nx s=94)),.sl 6 0 ([]),.i64 0,.i64 0],.row 2 n (l.flatMap X0s),.box [.int .i32 ((X0J s1 b1).1),.int .i32 ((X0J ((tkM ((X0J s1 b1).2.1) (X0J s1 b1).2.2).2.1) (tkM ((X0J s1 b1).2.1) (X0J s1 b1).2.2).2.2).1)]] ?_
      refine OD.nil ?_
      have hcut:(hiM (X0J s1 b1))=X0J (tkM (X0J s1 b1).2.1 (X0J s1 b1).2.2).2.1 (tkM (X0J s1 b1).2.1 (X0J s1 b1).2.2).2.2:=if_pos h5
      rw [hcut]<;>rfl
     ·
      refine CD.weak [0,2,3,4] 5 (E':=[(0,.loc 0 0),(2,.loc 1 0),(3,.loc 2 0),(4,.loc 4 0)]) (by kernel_rfl) (by simp [hg0]) (by kernel_rfl) ?_
      refine CD.skip ?_
      have hcut:(hiM (X0J s1 b1))=(X0J s1 b1):=if_neg h5
      rw [hcut]<;>rfl
   ·
    subst e
    refine CD.seqM (fun σ=>σ=⟨[(0,.loc 0 0),(2,.loc 1 0),(3,.loc 2 0),(4,.loc 4 0)],[X0I ((hiM (X0J s1 b1)).2.1) ((hiM (X0J s1 b1)).2.2 || decide ((hiM (X0J s1 b1)).1<(X0J s1 b1).1)),.box [.i64 0,.lit (.slice none 0 0),.bool false,.lit (.slice none 0 0),.i64 0,.i64 0],.box [.i64 2,.row 3 0 n n,.bool (decide (nx s=94)),.sl 6 0 ([]),.i64 0,.i64 0],.row 2 n (l.flatMap X0s),.box [.int .i32 ((X0J s1 b1).1),.int .i32 ((hiM (X0J s1 b1)).1)]]⟩) ?_ (fun σ e=>?_)
    ·
     refine CD.region ?_
     refine OD.rE 6 [(0,.loc 0 0),(2,.loc 1 0),(3,.loc 2 0),(4,.loc 4 0),(53,.loc 0 0),(58,.bool (hiM (X0J s1 b1)).2.2)] ?_
     refine OD.ifB 58 rfl (fun h6=>?_) (fun h6=>?_)
     ·
      refine OD.rL 9 [(0,.loc 0 0),(2,.loc 1 0),(3,.loc 2 0),(4,.loc 4 0)] [X0I ((hiM (X0J s1 b1)).2.1) true,.box [.i64 0,.lit (.slice none 0 0),.bool false,.lit (.slice none 0 0),.i64 0,.i64 0],.box [.i64 2,.row 3 0 n n,.bool (decide (nx s=94)),.sl 6 0 ([]),.i64 0,.i64 0],.row 2 n (l.flatMap X0s),.box [.int .i32 ((X0J s1 b1).1),.int .i32 ((hiM (X0J s1 b1)).1)]] ?_
      refine OD.nil ?_
      have hcut:((hiM (X0J s1 b1)).2.2 || decide ((hiM (X0J s1 b1)).1<(X0J s1 b1).1))=true:=by simp [h6]
      rw [hcut]<;>rfl
     ·
      refine OD.rL 9 [(0,.loc 0 0),(2,.loc 1 0),(3,.loc 2 0),(4,.loc 4 0)] [X0I ((hiM (X0J s1 b1)).2.1) (decide ((((hiM (X0J s1 b1)).1):Int)<((X0J s1 b1).1))),.box [.i64 0,.lit (.slice none 0 0),.bool false,.lit (.slice none 0 0),.i64 0,.i64 0],.box [.i64 2,.row 3 0 n n,.bool (decide (nx s=94)),.sl 6 0 ([]),.i64 0,.i64 0],.row 2 n (l.flatMap X0s),.box [.int .i32 ((X0J s1 b1).1),.int .i32 ((hiM (X0J s1 b1)).1)]] ?_
      refine OD.nil ?_
      have hcut:((hiM (X0J s1 b1)).2.2 || decide ((hiM (X0J s1 b1)).1<(X0J s1 b1).1))=(decide ((((hiM (X0J s1 b1)).1):Int)<((X0J s1 b1).1))):=by simp [h6]
      rw [hcut]<;>rfl
    ·
     subst e
     refine CD.region ?_
     refine OD.rE 3 [(0,.loc 0 0),(2,.loc 1 0),(3,.loc 2 0),(68,.row 3 0 n n),(69,.agg [.int .i32 ((X0J s1 b1).1),.int .i32 ((hiM (X0J s1 b1)).1)])] ?_
     refine OD.bsl (e:=2) (cs:=[.int .i32 ((X0J s1 b1).1),.int .i32 ((hiM (X0J s1 b1)).1)]) rfl (by kernel_rfl) ?_
     refine OD.rE 0 [(0,.loc 0 0),(2,.loc 1 0),(3,.loc 2 0),(68,.row 3 0 n n),(70,.sl 2 1 [.int .i32 ((X0J s1 b1).1),.int .i32 ((hiM (X0J s1 b1)).1)])] ?_
     refine OD.appE (enc:=X0s) (xs:=l) (vs:=[((X0J s1 b1).1,(hiM (X0J s1 b1)).1)]) rfl (by kernel_rfl) rfl rfl rfl (by rfl) XA1 (by first | omega | (simp<;>omega)) (by decide) (by omega) (by omega) ?_
     refine OD.rL 2 [(0,.loc 0 0),(2,.loc 1 0),(3,.loc 2 0)] [X0I ((hiM (X0J s1 b1)).2.1) ((hiM (X0J s1 b1)).2.2 || decide ((hiM (X0J s1 b1)).1<(X0J s1 b1).1)),.box [.i64 0,.lit (.slice none 0 0),.bool false,.lit (.slice none 0 0),.i64 0,.i64 0],.box [.i64 2,.row 3 0 (n+1) (n+1),.bool (decide (nx s=94)),.sl 6 0 ([]),.i64 0,.i64 0],.row 2 (n+1) ((l++[((X0J s1 b1).1,(hiM (X0J s1 b1)).1)]).flatMap X0s),.box [.int .i32 ((X0J s1 b1).1),.int .i32 ((hiM (X0J s1 b1)).1)]] ?_
     refine OD.nilW [0,2,3] 4 (E':=[(0,.loc 0 0),(2,.loc 1 0),(3,.loc 2 0)]) (by kernel_rfl) (by simp [hg0]) (by kernel_rfl) ?_
     have hcnd:=h2
     have hff:=hf hcnd.1
     exact⟨_,by omega,((hiM (X0J s1 b1)).2.1),((hiM (X0J s1 b1)).2.2 || decide ((hiM (X0J s1 b1)).1<(X0J s1 b1).1)),(l++[((X0J s1 b1).1,(hiM (X0J s1 b1)).1)]),n+1,f - 1,(by kernel_rfl),hr.trans (XGN hcnd hf),XGO hf hcnd.1,by rw [List.length_append,hn];rfl,by omega,rfl⟩
  ·
   refine CD.exit ?_
   refine CD.seq (CD.region ?_)
   refine OD.freezeB 2 1 rfl rfl rfl (Nat.le_refl _) ?_
   refine OD.rE 6 [(0,.loc 0 0),(2,.loc 1 0),(3,.loc 2 0),(73,.loc 0 0),(78,.bool b1)] ?_
   refine OD.ifB 78 rfl (fun h7=>?_) (fun h7=>?_)
   ·
    refine OD.rL 13 [(2,.loc 1 0),(3,.loc 2 0)] [X0I s1 true,.box [.i64 0,.lit (.slice none 0 0),.bool false,.lit (.slice none 0 0),.i64 0,.i64 0],.box [.i64 2,.sl 2 n (l.flatMap X0s),.bool (decide (nx s=94)),.sl 6 0 ([]),.i64 0,.i64 0],.dead] ?_
    refine OD.nil (CD.seq (CD.region ?_))
    refine OD.rL 2 [(2,.loc 1 0)] [X0I s1 true,.box [.i64 2,.sl 2 n (l.flatMap X0s),.bool (decide (nx s=94)),.sl 6 0 ([]),.i64 0,.i64 0],.box [.i64 2,.sl 2 n (l.flatMap X0s),.bool (decide (nx s=94)),.sl 6 0 ([]),.i64 0,.i64 0],.dead] ?_
    refine OD.nil (CD.ret ?_)
    (try dsimp only);first | refine X01 ?_ | refine X02 ?_
    exact rO 1 (.agg [.i64 2,.sl 2 n (l.flatMap X0s),.bool (decide (nx s=94)),.sl 6 0 ([]),.i64 0,.i64 0]) [X0I s1 true] (X7F hr (by assumption) hn (by simp [X0i,isR,h2,h7]) (by simp [X0i,isR,h2,h7]) )
   ·
    refine OD.rE 1 [(2,.loc 1 0),(3,.loc 2 0),(73,.loc 0 0),(78,.bool false),(79,.loc 0 0)] ?_
    refine OD.guard rfl rfl ?_
    refine OD.cO [0] [.loc 0 0,.int .i32 93] (X4y s1 b1 93 (by decide)) (fun r L1 hr=>?_)
    rcases hr with⟨hi8,rfl,rfl⟩ | ⟨hi8,rfl,rfl⟩
    ·
     refine OD.rL 11 [(2,.loc 1 0),(3,.loc 2 0)] [X0I s1.tail (decide ((((n:Nat):Int):Int)=0)),.box [.i64 0,.lit (.slice none 0 0),.bool false,.lit (.slice none 0 0),.i64 0,.i64 0],.box [.i64 2,.sl 2 n (l.flatMap X0s),.bool (decide (nx s=94)),.sl 6 0 ([]),.i64 0,.i64 0],.dead] ?_
     refine OD.nil (CD.seq (CD.region ?_))
     refine OD.rL 2 [(2,.loc 1 0)] [X0I s1.tail (decide ((((n:Nat):Int):Int)=0)),.box [.i64 2,.sl 2 n (l.flatMap X0s),.bool (decide (nx s=94)),.sl 6 0 ([]),.i64 0,.i64 0],.box [.i64 2,.sl 2 n (l.flatMap X0s),.bool (decide (nx s=94)),.sl 6 0 ([]),.i64 0,.i64 0],.dead] ?_
     refine OD.nil (CD.ret ?_)
     (try dsimp only);first | refine X01 ?_ | refine X02 ?_
     exact rO 1 (.agg [.i64 2,.sl 2 n (l.flatMap X0s),.bool (decide (nx s=94)),.sl 6 0 ([]),.i64 0,.i64 0]) [X0I s1.tail (decide ((((n:Nat):Int):Int)=0))] (X7F hr (by assumption) hn (by simp [X0i,isR,h2,h7,hi8]) (by simp [X0i,isR,h2,h7,hi8]) )
    ·
     refine OD.rL 11 [(2,.loc 1 0),(3,.loc 2 0)] [X0I s1 true,.box [.i64 0,.lit (.slice none 0 0),.bool false,.lit (.slice none 0 0),.i64 0,.i64 0],.box [.i64 2,.sl 2 n (l.flatMap X0s),.bool (decide (nx s=94)),.sl 6 0 ([]),.i64 0,.i64 0],.dead] ?_
     refine OD.nil (CD.seq (CD.region ?_))
     refine OD.rL 2 [(2,.loc 1 0)] [X0I s1 true,.box [.i64 2,.sl 2 n (l.flatMap X0s),.bool (decide (nx s=94)),.sl 6 0 ([]),.i64 0,.i64 0],.box [.i64 2,.sl 2 n (l.flatMap X0s),.bool (decide (nx s=94)),.sl 6 0 ([]),.i64 0,.i64 0],.dead] ?_
     refine OD.nil (CD.ret ?_)
     (try dsimp only);first | refine X01 ?_ | refine X02 ?_
     exact rO 1 (.agg [.i64 2,.sl 2 n (l.flatMap X0s),.bool (decide (nx s=94)),.sl 6 0 ([]),.i64 0,.i64 0]) [X0I s1 true] (X7F hr (by assumption) hn (by simp [X0i,isR,h2,h7,hi8]) (by simp [X0i,isR,h2,h7,hi8]) )
theorem XC8 (s:ByteArray) (c:Int) (hk:XFc s c=true):X1Q P ov 134 [.str s,.int .u8 c] (.i64 (zOf s c)):=by
 refine FnD.intro (by kernel_rfl) (fn:=Tryz.f134) (by kernel_rfl) rfl (by kernel_rfl) fun M a0 g0 hg0=>?_
 refine CD.seq (CD.region ?_)
 refine OD.rE 1 [(0,.str s),(1,.int .u8 c)] ?_
 refine OD.nil (CD.seq (CD.region ?_))
 refine OD.rE 2 [(5,.str s),(6,.int .u8 c)] ?_
 refine OD.ext2 rfl rfl rfl rfl (by kernel_rfl) (XGS hk) ?_
 refine OD.rE 1 [(4,.i64 (zOf s c))] ?_
 refine OD.nil (CD.ret ?_)
 exact rP (.i64 (zOf s c)) (rfl)
theorem X84 (s:ByteArray) (c:Int) (hk:XFc s c=true):X1Q P ov 127 [.str s,.int .u8 c] (.i64 (zOf s c)):=by
 refine FnD.intro (by kernel_rfl) (fn:=Tryz.f127) (by kernel_rfl) rfl (by kernel_rfl) fun M a0 g0 hg0=>?_
 refine CD.seq (CD.region ?_)
 refine OD.rE 1 [(0,.str s),(1,.int .u8 c)] ?_
 refine OD.nil (CD.seq (CD.region ?_))
 refine OD.rE 2 [(5,.str s),(6,.int .u8 c)] ?_
 refine OD.cE (XC8 s c hk) ?_
 refine OD.rE 1 [(4,.i64 (zOf s c))] ?_
 refine OD.nil (CD.ret ?_)
 exact rP (.i64 (zOf s c)) (rfl)
theorem XEM (r:Int) (hr:X1l r=true) (h0:0≤r) (h65:¬ r=65533):X1Q P ov 123 [.str X06,.int .i32 r] (.i64 (ixR r)):=by
 refine FnD.intro (by kernel_rfl) (fn:=Tryz.f123) (by kernel_rfl) rfl (by kernel_rfl) fun M a0 g0 hg0=>?_
 refine CD.seq (CD.region ?_)
 refine OD.rE 1 [(0,.str X06),(1,.int .i32 r)] ?_
 refine OD.nil (CD.block (CD.seq (CD.region ?_)))
 refine OD.rE 2 [(0,.str X06),(1,.int .i32 r),(162,.bool (decide ((0:Int)≤r)))] ?_
 refine OD.is 162 rfl (congrArg D.bool (decide_eq_true (by omega))) ?_
 refine OD.rE 5 [(0,.str X06),(1,.int .i32 r),(160,.bool (decide ((r:Int)<128)))] ?_
 refine OD.nil ?_
 refine CD.condP rfl (fun h1=>?_) (fun h1=>?_)
 ·
  refine CD.seq (CD.region ?_)
  refine OD.rE 3 [(167,.str X06),(169,.int .u8 (X05 .u8 (r)))] ?_
  refine OD.is 169 rfl (wr8 (by omega) (by omega)) ?_
  refine OD.rE 0 [(167,.str X06),(169,.int .u8 r)] ?_
  refine OD.cE (X84 X06 r (XFd h0 (by omega)).1) ?_
  refine OD.rE 1 [(4,.i64 (zOf X06 r))] ?_
  refine OD.nil (CD.ret ?_)
  exact rP (.i64 (zOf X06 r)) (congrArg (D.int .i64) (by rw [ixR,if_pos (by omega)]))
 ·
  refine CD.seq (CD.region ?_)
  refine OD.rE 2 [(0,.str X06),(1,.int .i32 r),(173,.bool (decide ((r:Int)=65533)))] ?_
  refine OD.is 173 rfl (congrArg D.bool (decide_eq_false (by omega))) ?_
  refine OD.rE 1 [(0,.str X06),(1,.int .i32 r),(171,.bool false)] ?_
  refine OD.nil ?_
  refine CD.condF rfl ?_
  refine CD.seq (CD.region ?_)
  refine OD.rE 1 [(0,.str X06),(1,.int .i32 r),(184,.int .i32 r)] ?_
  refine OD.cE (X4r r) ?_
  refine OD.is 185 rfl (congrArg D.bool (by simp only [X1l,Bool.and_eq_true]at hr;exact hr.1)) ?_
  refine OD.rE 2 [(0,.str X06),(1,.int .i32 r),(183,.bool false)] ?_
  refine OD.nil ?_
  refine CD.condF rfl ?_
  refine CD.scope ?_
  refine CD.seq (CD.region ?_)
  refine OD.rE 1 [(0,.str X06),(17,.int .i32 r)] ?_
  refine OD.convRS rfl (by kernel_rfl) (by kernel_rfl) ?_
  refine OD.rE 1 [(0,.str X06),(7,.str (Utf8.encode r))] ?_
  refine OD.nil (CD.seq (CD.region ?_))
  refine OD.rE 2 [(0,.str X06),(7,.str (Utf8.encode r)),(20,.i64 (((Utf8.encode r).size:Nat):Int))] ?_
  obtain⟨la,hm,hm1,hm3,hml⟩:=XEJ hr (by omega)
  have hmb:=XIR la hm1 hm3
  have hss:X06.size=14:=rfl
  have hcb:=XBO (Utf8.encode r) la
  have hho:=XGT hm1 hm3 hml hcb
  refine OD.is 20 rfl (congrArg (fun n:Nat=>D.int .i64 (n:Int)) hm) ?_
  refine OD.rE 1 [(0,.str X06),(7,.str (Utf8.encode r)),(21,.i64 (X05 .i64 (((la+1:Nat):Int) - 1)))] ?_
  refine OD.is 21 rfl (wrn (m:=la) (by omega) (by omega)) ?_
  refine OD.rE 1 [(0,.str X06),(7,.str (Utf8.encode r)),(8,.i64 la)] ?_
  refine OD.nil (CD.seq (CD.region ?_))
  refine OD.rE 2 [(0,.str X06),(7,.str (Utf8.encode r)),(8,.i64 la),(9,.i64 la)] ?_
  refine OD.nil (CD.seq (CD.region ?_))
  refine OD.rE 1 [(0,.str X06),(7,.str (Utf8.encode r)),(8,.i64 la),(9,.i64 la)] ?_
  refine OD.nil (CD.seq (CD.block ?_))
  refine CD.weak [0,7,8,9] 0 (E':=[(0,.str X06),(7,.str (Utf8.encode r)),(8,.i64 la),(9,.i64 la)]) (by kernel_rfl) (by simp [hg0]) (by kernel_rfl) ?_
  refine CD.loop (fun m σ=>σ=⟨[(0,.str X06),(7,.str (Utf8.encode r)),(8,.i64 la),(9,.i64 la)],[]⟩∧m=la+1) (fun m σ hI=>?_) _ ⟨(by kernel_rfl),rfl⟩
  obtain⟨e,hm⟩:=hI
  subst e hm
  refine CD.seq (CD.seq (CD.region ?_))
  refine OD.rE 3 [(0,.str X06),(7,.str (Utf8.encode r)),(8,.i64 la),(9,.i64 la),(23,.i64 la),(25,.i64 X06.size)] ?_
  refine OD.is 25 rfl (congrArg (fun n:Nat=>D.int .i64 (n:Int)) (show X06.size=14 from rfl)) ?_
  refine OD.rE 1 [(0,.str X06),(7,.str (Utf8.encode r)),(8,.i64 la),(9,.i64 la),(26,.bool (decide ((((la:Nat):Int):Int)<14)))] ?_
  refine OD.nil ?_
  refine CD.condP rfl (fun h2=>?_) (fun h2=>?_)
  ·
   refine CD.skip (CD.block ?_)
   refine CD.scope ?_
   refine CD.seq (CD.seq ?_)
   refine CD.drawn (by kernel_rfl) ?_
   refine OD.rE 2 [(0,.str X06),(7,.str (Utf8.encode r)),(8,.i64 la),(9,.i64 la),(27,.str X06),(28,.i64 la)] ?_
   refine OD.ixS (i:=la) rfl rfl (by kernel_rfl) (by omega) (by omega) (fun hb1=>?_)
   refine OD.rE 2 [(0,.str X06),(7,.str (Utf8.encode r)),(8,.i64 la),(9,.i64 la),(29,.int .u8 ((sB X06 la:Nat):Int)),(30,.str (Utf8.encode r)),(31,.i64 la)] ?_
   refine OD.ixS (i:=la) rfl rfl (by kernel_rfl) (by omega) (by omega) (fun hb2=>?_)
   refine OD.rE 1 [(0,.str X06),(7,.str (Utf8.encode r)),(8,.i64 la),(9,.i64 la),(33,.bool (decide (¬ (((sB X06 la:Nat):Int):Int)=((sB (Utf8.encode r) la:Nat):Int))))] ?_
   refine OD.is 33 rfl (congrArg D.bool (decide_eq_true (by omega))) ?_
   refine OD.rE 0 [(0,.str X06),(7,.str (Utf8.encode r)),(8,.i64 la),(9,.i64 la),(33,.bool true)] ?_
   refine OD.nil ⟨by kernel_rfl,?_⟩
   refine CD.condT rfl ?_
   refine CD.seq ?_
   refine CD.drawn (by kernel_rfl) ?_
   refine OD.rE 3 [(0,.str X06),(7,.str (Utf8.encode r)),(8,.i64 la),(9,.i64 la),(34,.str X06),(36,.i64 (X05 .i64 (((la:Nat):Int)+1)))] ?_
   refine OD.is 36 rfl (wrn (m:=la+1) (by omega) (by omega)) ?_
   refine OD.rE 0 [(0,.str X06),(7,.str (Utf8.encode r)),(8,.i64 la),(9,.i64 la),(34,.str X06),(36,.i64 ((la+1:Nat):Int))] ?_
   refine OD.slS (lw:=(la+1)) (u:=X06.size) rfl (by kernel_rfl) (.inr ⟨_,_,rfl,rfl⟩) (.inl ⟨rfl,rfl⟩) (by omega) (by omega) ?_
   refine OD.rE 2 [(0,.str X06),(7,.str (Utf8.encode r)),(8,.i64 la),(9,.i64 la),(37,.str (X06.extract (la+1) X06.size)),(38,.str (Utf8.encode r)),(39,.i64 la)] ?_
   refine OD.ixS (i:=la) rfl rfl (by kernel_rfl) (by omega) (by omega) (fun hb3=>?_)
   refine OD.rE 0 [(0,.str X06),(7,.str (Utf8.encode r)),(8,.i64 la),(9,.i64 la),(37,.str (X06.extract (la+1) X06.size)),(40,.int .u8 ((sB (Utf8.encode r) la:Nat):Int))] ?_
   refine OD.cE (X84 (X06.extract (la+1) X06.size) ((sB (Utf8.encode r) la:Nat):Int) hho.1) ?_
   refine OD.rE 1 [(0,.str X06),(7,.str (Utf8.encode r)),(8,.i64 la),(9,.i64 la),(11,.i64 (zOf (X06.extract (la+1) X06.size) ((sB (Utf8.encode r) la:Nat):Int)))] ?_
   refine OD.nil ⟨by kernel_rfl,?_⟩
   refine CD.seq (CD.seq (CD.region ?_))
   refine OD.rE 2 [(0,.str X06),(7,.str (Utf8.encode r)),(8,.i64 la),(9,.i64 la),(11,.i64 (zOf (X06.extract (la+1) X06.size) ((sB (Utf8.encode r) la:Nat):Int))),(43,.bool (decide (((zOf (X06.extract (la+1) X06.size) ((sB (Utf8.encode r) la:Nat):Int)):Int)<0)))] ?_
   refine OD.is 43 rfl (congrArg D.bool (decide_eq_true hho.2)) ?_
   refine OD.rE 0 [(0,.str X06),(7,.str (Utf8.encode r)),(8,.i64 la),(9,.i64 la),(11,.i64 (zOf (X06.extract (la+1) X06.size) ((sB (Utf8.encode r) la:Nat):Int))),(43,.bool true)] ?_
   refine OD.nil ?_
   refine CD.condT rfl ?_
   refine CD.seq (CD.region ?_)
   refine OD.rE 1 [(4,.i64 (-1))] ?_
   refine OD.nil (CD.ret ?_)
   exact rP (.i64 (-1)) (congrArg (D.int .i64) (by rw [ixR,if_neg (by omega)]))
  ·
   refine CD.exit ?_
   refine CD.seq (CD.seq (CD.region ?_))
   refine OD.rE 1 [(4,.i64 (-1))] ?_
   refine OD.nil (CD.ret ?_)
   exact rP (.i64 (-1)) (congrArg (D.int .i64) (by rw [ixR,if_neg (by omega)]))
theorem X9A (r:Int) (h:X1l r=true):X1Q P ov 113 [.str X06,.int .i32 r] (.bool (specB r)):=by
 refine FnD.intro (by kernel_rfl) (fn:=Tryz.f113) (by kernel_rfl) rfl (by kernel_rfl) fun M a0 g0 hg0=>?_
 refine CD.seq (CD.region ?_)
 refine OD.rE 1 [(0,.str X06),(1,.int .i32 r)] ?_
 refine OD.nil (CD.seq (CD.region ?_))
 refine OD.rE 2 [(5,.str X06),(6,.int .i32 r)] ?_
 refine OD.cE (XEM r h (XIS h) (XGU h)) ?_
 refine OD.rE 2 [(4,.bool (decide ((0:Int)≤(ixR r))))] ?_
 refine OD.nil (CD.ret ?_)
 exact rP (.bool (decide ((0:Int)≤(ixR r)))) (congrArg D.bool (XEK h))
end
end Go.Proofs.YtiebldaihnbkmaaGreatDoor
set_option maxRecDepth 100000
set_option maxHeartbeats 4000000
namespace Go.Proofs.YtiebldaihnbkmaaGreatDoor
open Go.Vai Go.Nfa
noncomputable section
theorem XGV (N:Nat) (hN0:N≤1000000) (alt:Rdr) (hP:∀ s b,okS s→s.length+1≤N→FnD P ov 56 [.loc 0 0] [X0I s b] (X2j (alt s b))) (s:List Int) (b:Bool) (hs:okS s) (hN:s.length≤N):FnD P ov 111 [.loc 0 0] [X0I s b] (X2j (X1A alt s b)):=by
 refine FnD.intro (by kernel_rfl) (fn:=Tryz.f111) (by kernel_rfl) rfl (by kernel_rfl) fun M a0 g0 hg0=>?_
 refine CD.seq (CD.region ?_)
 refine OD.rL 1 [(0,.loc 0 0),(2,.loc 1 0)] [X0I s b,.box [.i64 0,.lit (.slice none 0 0),.bool false,.lit (.slice none 0 0),.i64 0,.i64 0]] ?_
 refine OD.nil (CD.seq (CD.region ?_))
 refine OD.rE 1 [(0,.loc 0 0),(2,.loc 1 0),(5,.loc 0 0)] ?_
 refine OD.cO [0] [.loc 0 0] (X4R s b) (fun r L1 hr=>?_)
 obtain⟨rfl,rfl⟩:=hr
 refine OD.rE 1 [(0,.loc 0 0),(2,.loc 1 0),(3,.int .i32 ((tkM s b).1))] ?_
 refine OD.nil (CD.seq (CD.seq (CD.region ?_)))
 refine OD.rE 1 [(0,.loc 0 0),(2,.loc 1 0),(3,.int .i32 ((tkM s b).1)),(7,.int .i32 ((tkM s b).1))] ?_
 refine OD.nil (CD.block (CD.seq (CD.region ?_)))
 refine OD.rE 2 [(0,.loc 0 0),(2,.loc 1 0),(3,.int .i32 ((tkM s b).1)),(7,.int .i32 ((tkM s b).1)),(8,.bool (decide (((tkM s b).1:Int)=40)))] ?_
 refine OD.nil ?_
 refine CD.condP rfl (fun h1=>?_) (fun h1=>?_)
 ·
  refine CD.seq (CD.region ?_)
  refine OD.rE 1 [(0,.loc 0 0),(2,.loc 1 0),(10,.loc 0 0)] ?_
  refine OD.cO [0] [.loc 0 0] (hP ((tkM s b).2.1) (tkM s b).2.2 (hs.sfx (X2J s b)) (by have:=XIO (by assumption);omega)) (fun r L1 hr=>?_)
  obtain⟨rfl,rfl⟩:=hr
  refine OD.rL 2 [(0,.loc 0 0),(2,.loc 1 0),(4,.loc 2 0)] [X0I ((alt ((tkM s b).2.1) (tkM s b).2.2).2.1) (alt ((tkM s b).2.1) (tkM s b).2.2).2.2,.box [.i64 0,.lit (.slice none 0 0),.bool false,.lit (.slice none 0 0),.i64 0,.i64 0],.box (X11 ((alt ((tkM s b).2.1) (tkM s b).2.2).1))] ?_
  refine OD.nil (CD.seq (CD.region ?_))
  refine OD.rE 6 [(0,.loc 0 0),(2,.loc 1 0),(4,.loc 2 0),(12,.loc 0 0),(17,.bool (alt ((tkM s b).2.1) (tkM s b).2.2).2.2)] ?_
  refine OD.ifB 17 rfl (fun h2=>?_) (fun h2=>?_)
  ·
   refine OD.rL 7 [(2,.loc 1 0),(4,.loc 2 0)] [X0I ((alt ((tkM s b).2.1) (tkM s b).2.2).2.1) true,.box [.i64 0,.lit (.slice none 0 0),.bool false,.lit (.slice none 0 0),.i64 0,.i64 0],.box (X11 ((alt ((tkM s b).2.1) (tkM s b).2.2).1))] ?_
   refine OD.nil (CD.seq (CD.region ?_))
   refine OD.rL 2 [(2,.loc 1 0)] [X0I ((alt ((tkM s b).2.1) (tkM s b).2.2).2.1) true,.box (X11 ((alt ((tkM s b).2.1) (tkM s b).2.2).1)),.box (X11 ((alt ((tkM s b).2.1) (tkM s b).2.2).1))] ?_
   refine OD.nil (CD.ret ?_)
   (try dsimp only);first | refine X01 ?_ | refine X02 ?_
   exact rO 1 (.agg (X11 ((alt ((tkM s b).2.1) (tkM s b).2.2).1))) [X0I ((alt ((tkM s b).2.1) (tkM s b).2.2).2.1) true] ((by constructor<;>first | (exfalso;omega) | (simp [X1A,X0i,isR,h1,h2];done) | (simp [X1A,X0i,isR,h1,h2];rfl)))
  ·
   refine OD.rE 1 [(2,.loc 1 0),(4,.loc 2 0),(12,.loc 0 0),(17,.bool false),(18,.loc 0 0)] ?_
   refine OD.guard rfl rfl ?_
   refine OD.cO [0] [.loc 0 0,.int .i32 41] (X4y ((alt ((tkM s b).2.1) (tkM s b).2.2).2.1) (alt ((tkM s b).2.1) (tkM s b).2.2).2.2 41 (by decide)) (fun r L1 hr=>?_)
   rcases hr with⟨hi3,rfl,rfl⟩ | ⟨hi3,rfl,rfl⟩
   ·
    refine OD.rL 5 [(2,.loc 1 0),(4,.loc 2 0)] [X0I (((alt ((tkM s b).2.1) (tkM s b).2.2).2.1).tail) false,.box [.i64 0,.lit (.slice none 0 0),.bool false,.lit (.slice none 0 0),.i64 0,.i64 0],.box (X11 ((alt ((tkM s b).2.1) (tkM s b).2.2).1))] ?_
    refine OD.nil (CD.seq (CD.region ?_))
    refine OD.rL 2 [(2,.loc 1 0)] [X0I (((alt ((tkM s b).2.1) (tkM s b).2.2).2.1).tail) false,.box (X11 ((alt ((tkM s b).2.1) (tkM s b).2.2).1)),.box (X11 ((alt ((tkM s b).2.1) (tkM s b).2.2).1))] ?_
    refine OD.nil (CD.ret ?_)
    (try dsimp only);first | refine X01 ?_ | refine X02 ?_
    exact rO 1 (.agg (X11 ((alt ((tkM s b).2.1) (tkM s b).2.2).1))) [X0I (((alt ((tkM s b).2.1) (tkM s b).2.2).2.1).tail) false] ((by constructor<;>first | (exfalso;omega) | (simp [X1A,X0i,isR,h1,h2,hi3];done) | (simp [X1A,X0i,isR,h1,h2,hi3];rfl)))
   ·
    refine OD.rL 5 [(2,.loc 1 0),(4,.loc 2 0)] [X0I ((alt ((tkM s b).2.1) (tkM s b).2.2).2.1) true,.box [.i64 0,.lit (.slice none 0 0),.bool false,.lit (.slice none 0 0),.i64 0,.i64 0],.box (X11 ((alt ((tkM s b).2.1) (tkM s b).2.2).1))] ?_
    refine OD.nil (CD.seq (CD.region ?_))
    refine OD.rL 2 [(2,.loc 1 0)] [X0I ((alt ((tkM s b).2.1) (tkM s b).2.2).2.1) true,.box (X11 ((alt ((tkM s b).2.1) (tkM s b).2.2).1)),.box (X11 ((alt ((tkM s b).2.1) (tkM s b).2.2).1))] ?_
    refine OD.nil (CD.ret ?_)
    (try dsimp only);first | refine X01 ?_ | refine X02 ?_
    exact rO 1 (.agg (X11 ((alt ((tkM s b).2.1) (tkM s b).2.2).1))) [X0I ((alt ((tkM s b).2.1) (tkM s b).2.2).2.1) true] ((by constructor<;>first | (exfalso;omega) | (simp [X1A,X0i,isR,h1,h2,hi3];done) | (simp [X1A,X0i,isR,h1,h2,hi3];rfl)))
 ·
  refine CD.seq (CD.region ?_)
  refine OD.rE 2 [(0,.loc 0 0),(2,.loc 1 0),(3,.int .i32 ((tkM s b).1)),(7,.int .i32 ((tkM s b).1)),(25,.bool (decide (((tkM s b).1:Int)=46)))] ?_
  refine OD.nil ?_
  refine CD.condP rfl (fun h4=>?_) (fun h4=>?_)
  ·
   refine CD.seq (CD.region ?_)
   refine OD.rE 1 [(2,.loc 1 0),(27,.agg [.i64 2,.lit (.slice none 0 0),.bool true,.lit (.slice none 0 0),.i64 0,.i64 0])] ?_
   refine OD.reNil 27 [0,2,0,6,0,0] (ds':=[.i64 2,.sl 2 0 ([]),.bool true,.sl 6 0 ([]),.i64 0,.i64 0]) rfl (by kernel_rfl) ?_
   refine OD.rL 1 [(2,.loc 1 0)] [X0I ((tkM s b).2.1) (tkM s b).2.2,.box [.i64 2,.sl 2 0 ([]),.bool true,.sl 6 0 ([]),.i64 0,.i64 0]] ?_
   refine OD.nil (CD.ret ?_)
   (try dsimp only);first | refine X01 ?_ | refine X02 ?_
   exact rO 1 (.agg [.i64 2,.sl 2 0 ([]),.bool true,.sl 6 0 ([]),.i64 0,.i64 0]) [X0I ((tkM s b).2.1) (tkM s b).2.2] ((by constructor<;>first | (exfalso;omega) | (simp [X1A,X0i,isR,h1,h4];done) | (simp [X1A,X0i,isR,h1,h4];rfl)))
  ·
   refine CD.seq (CD.region ?_)
   refine OD.rE 2 [(0,.loc 0 0),(2,.loc 1 0),(3,.int .i32 ((tkM s b).1)),(7,.int .i32 ((tkM s b).1)),(28,.bool (decide (((tkM s b).1:Int)=94)))] ?_
   refine OD.nil ?_
   refine CD.condP rfl (fun h5=>?_) (fun h5=>?_)
   ·
    refine CD.seq (CD.region ?_)
    refine OD.rE 1 [(2,.loc 1 0),(30,.agg [.i64 6,.lit (.slice none 0 0),.bool false,.lit (.slice none 0 0),.i64 0,.i64 0])] ?_
    refine OD.reNil 30 [0,2,0,6,0,0] (ds':=[.i64 6,.sl 2 0 ([]),.bool false,.sl 6 0 ([]),.i64 0,.i64 0]) rfl (by kernel_rfl) ?_
    refine OD.rL 1 [(2,.loc 1 0)] [X0I ((tkM s b).2.1) (tkM s b).2.2,.box [.i64 6,.sl 2 0 ([]),.bool false,.sl 6 0 ([]),.i64 0,.i64 0]] ?_
    refine OD.nil (CD.ret ?_)
    (try dsimp only);first | refine X01 ?_ | refine X02 ?_
    exact rO 1 (.agg [.i64 6,.sl 2 0 ([]),.bool false,.sl 6 0 ([]),.i64 0,.i64 0]) [X0I ((tkM s b).2.1) (tkM s b).2.2] ((by constructor<;>first | (exfalso;omega) | (simp [X1A,X0i,isR,h1,h4,h5];done) | (simp [X1A,X0i,isR,h1,h4,h5];rfl)))
   ·
    refine CD.seq (CD.region ?_)
    refine OD.rE 2 [(0,.loc 0 0),(2,.loc 1 0),(3,.int .i32 ((tkM s b).1)),(7,.int .i32 ((tkM s b).1)),(31,.bool (decide (((tkM s b).1:Int)=36)))] ?_
    refine OD.nil ?_
    refine CD.condP rfl (fun h6=>?_) (fun h6=>?_)
    ·
     refine CD.seq (CD.region ?_)
     refine OD.rE 1 [(2,.loc 1 0),(33,.agg [.i64 7,.lit (.slice none 0 0),.bool false,.lit (.slice none 0 0),.i64 0,.i64 0])] ?_
     refine OD.reNil 33 [0,2,0,6,0,0] (ds':=[.i64 7,.sl 2 0 ([]),.bool false,.sl 6 0 ([]),.i64 0,.i64 0]) rfl (by kernel_rfl) ?_
     refine OD.rL 1 [(2,.loc 1 0)] [X0I ((tkM s b).2.1) (tkM s b).2.2,.box [.i64 7,.sl 2 0 ([]),.bool false,.sl 6 0 ([]),.i64 0,.i64 0]] ?_
     refine OD.nil (CD.ret ?_)
     (try dsimp only);first | refine X01 ?_ | refine X02 ?_
     exact rO 1 (.agg [.i64 7,.sl 2 0 ([]),.bool false,.sl 6 0 ([]),.i64 0,.i64 0]) [X0I ((tkM s b).2.1) (tkM s b).2.2] ((by constructor<;>first | (exfalso;omega) | (simp [X1A,X0i,isR,h1,h4,h5,h6];done) | (simp [X1A,X0i,isR,h1,h4,h5,h6];rfl)))
    ·
     refine CD.seq (CD.region ?_)
     refine OD.rE 2 [(0,.loc 0 0),(2,.loc 1 0),(3,.int .i32 ((tkM s b).1)),(7,.int .i32 ((tkM s b).1)),(34,.bool (decide (((tkM s b).1:Int)=92)))] ?_
     refine OD.nil ?_
     refine CD.condP rfl (fun h7=>?_) (fun h7=>?_)
     ·
      refine CD.seq (CD.region ?_)
      refine OD.rE 1 [(2,.loc 1 0),(36,.loc 0 0)] ?_
      refine OD.cO [0] [.loc 0 0] (X4R ((tkM s b).2.1) (tkM s b).2.2) (fun r L1 hr=>?_)
      obtain⟨rfl,rfl⟩:=hr
      refine OD.rE 0 [(2,.loc 1 0),(37,.int .i32 ((tkM ((tkM s b).2.1) (tkM s b).2.2).1))] ?_
      refine OD.cE (X4S ((tkM ((tkM s b).2.1) (tkM s b).2.2).1)) ?_
      refine OD.rL 1 [(2,.loc 1 0)] [X0I ((tkM ((tkM s b).2.1) (tkM s b).2.2).2.1) (tkM ((tkM s b).2.1) (tkM s b).2.2).2.2,.box (X11 (X34 ((tkM ((tkM s b).2.1) (tkM s b).2.2).1)))] ?_
      refine OD.nil (CD.ret ?_)
      (try dsimp only);first | refine X01 ?_ | refine X02 ?_
      exact rO 1 (.agg (X11 (X34 ((tkM ((tkM s b).2.1) (tkM s b).2.2).1)))) [X0I ((tkM ((tkM s b).2.1) (tkM s b).2.2).2.1) (tkM ((tkM s b).2.1) (tkM s b).2.2).2.2] ((by constructor<;>first | (exfalso;omega) | (simp [X1A,X0i,isR,h1,h4,h5,h6,h7];done) | (simp [X1A,X0i,isR,h1,h4,h5,h6,h7];rfl)))
     ·
      refine CD.seq (CD.region ?_)
      refine OD.rE 2 [(0,.loc 0 0),(2,.loc 1 0),(3,.int .i32 ((tkM s b).1)),(39,.bool (decide (((tkM s b).1:Int)=91)))] ?_
      refine OD.nil ?_
      refine CD.condP rfl (fun h8=>?_) (fun h8=>?_)
      ·
       refine CD.seq (CD.region ?_)
       refine OD.rE 1 [(2,.loc 1 0),(41,.loc 0 0)] ?_
       refine OD.cO [0] [.loc 0 0] (XIU ((tkM s b).2.1) (tkM s b).2.2 (by have:=(X2J s b).length_le;omega)) (fun r L1 hr=>?_)
       obtain⟨rfl,rfl⟩:=hr
       refine OD.rL 1 [(2,.loc 1 0)] [X0I ((X8C ((tkM s b).2.1) (tkM s b).2.2).2.1) (X8C ((tkM s b).2.1) (tkM s b).2.2).2.2,.box (X11 ((X8C ((tkM s b).2.1) (tkM s b).2.2).1))] ?_
       refine OD.nil (CD.ret ?_)
       (try dsimp only);first | refine X01 ?_ | refine X02 ?_
       exact rO 1 (.agg (X11 ((X8C ((tkM s b).2.1) (tkM s b).2.2).1))) [X0I ((X8C ((tkM s b).2.1) (tkM s b).2.2).2.1) (X8C ((tkM s b).2.1) (tkM s b).2.2).2.2] ((by constructor<;>first | (exfalso;omega) | (simp [X1A,X0i,isR,h1,h4,h5,h6,h7,h8];done) | (simp [X1A,X0i,isR,h1,h4,h5,h6,h7,h8];rfl)))
      ·
       refine CD.skip (CD.seq (CD.region ?_))
       refine OD.rE 6 [(2,.loc 1 0),(3,.int .i32 ((tkM s b).1)),(43,.loc 0 0),(48,.bool (tkM s b).2.2)] ?_
       refine OD.ifB 48 rfl (fun h9=>?_) (fun h9=>?_)
       ·
        refine OD.rL 6 [(2,.loc 1 0),(3,.int .i32 ((tkM s b).1))] [X0I ((tkM s b).2.1) true,.box [.i64 0,.lit (.slice none 0 0),.bool false,.lit (.slice none 0 0),.i64 0,.i64 0]] ?_
        refine OD.nil (CD.seq (CD.region ?_))
        refine OD.rE 1 [(2,.loc 1 0),(54,.int .i32 ((tkM s b).1))] ?_
        refine OD.cE (X4S ((tkM s b).1)) ?_
        refine OD.rL 1 [(2,.loc 1 0)] [X0I ((tkM s b).2.1) true,.box (X11 (X34 ((tkM s b).1)))] ?_
        refine OD.nil (CD.ret ?_)
        (try dsimp only);first | refine X01 ?_ | refine X02 ?_
        exact rO 1 (.agg (X11 (X34 ((tkM s b).1)))) [X0I ((tkM s b).2.1) true] ((by constructor<;>first | (exfalso;omega) | (simp [X1A,X0i,isR,h1,h4,h5,h6,h7,h8,h9];done) | (simp [X1A,X0i,isR,h1,h4,h5,h6,h7,h8,h9];rfl)))
       ·
        refine OD.rE 1 [(2,.loc 1 0),(3,.int .i32 ((tkM s b).1)),(43,.loc 0 0),(48,.bool false),(49,.int .i32 ((tkM s b).1))] ?_
        refine OD.guard rfl rfl ?_
        refine OD.cE (X9A ((tkM s b).1) (XGQ hs (by assumption))) ?_
        refine OD.rL 4 [(2,.loc 1 0),(3,.int .i32 ((tkM s b).1))] [X0I ((tkM s b).2.1) (specB ((tkM s b).1)),.box [.i64 0,.lit (.slice none 0 0),.bool false,.lit (.slice none 0 0),.i64 0,.i64 0]] ?_
        refine OD.nil (CD.seq (CD.region ?_))
        refine OD.rE 1 [(2,.loc 1 0),(54,.int .i32 ((tkM s b).1))] ?_
        refine OD.cE (X4S ((tkM s b).1)) ?_
        refine OD.rL 1 [(2,.loc 1 0)] [X0I ((tkM s b).2.1) (specB ((tkM s b).1)),.box (X11 (X34 ((tkM s b).1)))] ?_
        refine OD.nil (CD.ret ?_)
        (try dsimp only);first | refine X01 ?_ | refine X02 ?_
        exact rO 1 (.agg (X11 (X34 ((tkM s b).1)))) [X0I ((tkM s b).2.1) (specB ((tkM s b).1))] ((by constructor<;>first | (exfalso;omega) | (simp [X1A,X0i,isR,h1,h4,h5,h6,h7,h8,h9];done) | (simp [X1A,X0i,isR,h1,h4,h5,h6,h7,h8,h9];rfl)))
end
end Go.Proofs.YtiebldaihnbkmaaGreatDoor
namespace Go.Proofs.YtiebldaihnbkmaaGreatDoor
open Go.Vai Go.Nfa
noncomputable section
theorem XGW:∀ (f:Nat),f≤1000000→∀ (s:List Int) (b:Bool),okS s→s.length+1≤f→FnD P ov 56 [.loc 0 0] [X0I s b] (X2j (X2l f s b)):=by
 intro f
 induction f with
 | zero=>intro _ s b _ h;omega
 | succ f ih =>
  intro hf s b hs h
  have A:∀ s b,okS s→s.length≤f→FnD P ov 111 [.loc 0 0] [X0I s b] (X2j (XGq f s b)):=fun s b hs hl=>XGV f (by omega) (X2l f) (fun s b hs hl=>ih (by omega) s b hs hl) s b hs hl
  have B:∀ s b,okS s→s.length≤f→FnD P ov 98 [.loc 0 0] [X0I s b] (X2j (XAJ f s b)):=fun s b hs hl=>XEL f (by omega) (XGq f) A s b hs hl
  have R:∀ s b,okS s→s.length≤f→FnD P ov 75 [.loc 0 0] [X0I s b] (X2j (rowF f s b)):=fun s b hs hl=>XIQ f (by omega) (XAJ f) B (X5a f) (XCZ f) s b hs hl
  exact XIT f (by omega) (rowF f) R (X9O f) s b hs (by omega)
end
end Go.Proofs.YtiebldaihnbkmaaGreatDoor

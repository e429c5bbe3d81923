/-
  What is proved here: a reader of patterns as a function over lists of signs; how much it takes; what follows a whole one  what the reader of patterns reads, if it is not bad, may be a pattern, and is no greater than what w No conditions but those that the theorems state.
-/
import Derived.Test.YtfcadnhoejlgoaaGreatDoorPureNfa1
import Derived.Test.YtfcadnhoejlgoaaGreatDoorNA
set_option linter.unusedVariables false
set_option linter.unusedSimpArgs false
namespace Go.Nfa
def nx:List Int→Int
 | [] => -1
 | r::_=>r
abbrev Rd (α:Type):=α×List Int×Bool
def tkM (s:List Int) (b:Bool):Rd Int:=if nx s<0 then(nx s,s,true)else(nx s,s.tail,b)
def isR (r:Int) (s:List Int):List Int:=if nx s=r then s.tail else s
def X0s (r:Int) (s:List Int) (b:Bool):List Int×Bool:=if b then(s,true)else(isR r s,!decide (nx s=r))
def X0E (s:List Int) (b:Bool):Rd Int:=if (tkM s b).1<48∨57<(tkM s b).1 then(0,(tkM s b).2.1,true)else((tkM s b).1 - 48,(tkM s b).2.1,(tkM s b).2.2)
def X1z (d:Int) (s:List Int) (b:Bool):Rd Int :=
 if nx s=44 then
  if nx s.tail=125 then(-1,s.tail,b)
  else((X0E s.tail b).1,(X0E s.tail b).2.1,(X0E s.tail b).2.2 || decide ((X0E s.tail b).1<d))
 else(d,s,b)
def X13 (s:List Int) (b:Bool):Rd (Int×Int×Bool) :=
 if nx s=42 then((0,-1,true),s.tail,b)
 else if nx s=43 then((1,-1,true),s.tail,b)
 else if nx s=63 then((0,1,true),s.tail,b)
 else if nx s=123 then
  (((X0E s.tail b).1,(X1z (X0E s.tail b).1 (X0E s.tail b).2.1 (X0E s.tail b).2.2).1,true),
   X0s 125 (X1z (X0E s.tail b).1 (X0E s.tail b).2.1 (X0E s.tail b).2.2).2.1 (X1z (X0E s.tail b).1 (X0E s.tail b).2.1 (X0E s.tail b).2.2).2.2)
 else((0,0,false),s,b)
def X0Q (s:List Int) (b:Bool):Rd Int:=if (tkM s b).1=92 then tkM (tkM s b).2.1 (tkM s b).2.2 else tkM s b
def hiM (m:Rd Int):Rd Int :=
 if 2≤m.2.1.length∧m.2.1.getD 0 0=45∧¬ m.2.1.getD 1 0=93 then X0Q (tkM m.2.1 m.2.2).2.1 (tkM m.2.1 m.2.2).2.2 else m
def X7f:Nat→List (Int×Int)→List Int→Bool→Rd (List (Int×Int))
 | 0,l,s,b=>(l,s,b)
 | f+1,l,s,b=>if b=false∧¬ nx s=93 then
   X7f f (l++[((X0Q s b).1,(hiM (X0Q s b)).1)]) (hiM (X0Q s b)).2.1 ((hiM (X0Q s b)).2.2 || decide ((hiM (X0Q s b)).1<(X0Q s b).1))
  else(l,s,b)
def X9N (s:List Int) (b:Bool):Rd Nd :=
 let l:=X7f ((isR 94 s).length+1) [] (isR 94 s) b
 (.mk 2 l.1 (decide (nx s=94)) [] 0 0,(X0s 93 l.2.1 l.2.2).1,(X0s 93 l.2.1 l.2.2).2 || decide (l.1.length=0))
def XD6 (r:Int):Nd:=.mk 2 [(r,r)] false [] 0 0
def X8I:Nd:=.mk 0 [] false [] 0 0
def specB (r:Int):Bool:=decide (r∈[124,42,43,63,123,125,40,41,91,93,46,94,36,92])
def ofN (k:Int) (ks:List Nd):Nd:=if ks.length=1 then ks.headD X8I else .mk k [] false ks 0 0
abbrev Rdr:=List Int→Bool→Rd Nd
def X1Y (alt:Rdr) (s:List Int) (b:Bool):Rd Nd :=
 let r:=(tkM s b).1
 let s1:=(tkM s b).2.1
 let b1:=(tkM s b).2.2
 if r=40 then((alt s1 b1).1,X0s 41 (alt s1 b1).2.1 (alt s1 b1).2.2)
 else if r=46 then(.mk 2 [] true [] 0 0,s1,b1)
 else if r=94 then(.mk 6 [] false [] 0 0,s1,b1)
 else if r=36 then(.mk 7 [] false [] 0 0,s1,b1)
 else if r=92 then(XD6 (tkM s1 b1).1,(tkM s1 b1).2)
 else if r=91 then X9N s1 b1
 else(XD6 r,s1,b1 || specB r)
def X2M (atom:Rdr) (s:List Int) (b:Bool):Rd Nd :=
 let n:=atom s b
 let q:=X13 n.2.1 n.2.2
 if q.1.2.2 then(.mk 5 [] false [n.1] q.1.1 q.1.2.1,q.2.1,q.2.2 || decide (nx s=94∨nx s=36))else(n.1,q.2)
def X6Q (piece:Rdr):Nat→List Nd→List Int→Bool→Rd (List Nd)
 | 0,ks,s,b=>(ks,s,b)
 | f+1,ks,s,b=>if b=false∧0≤nx s∧¬ nx s=124∧¬ nx s=41 then X6Q piece f (ks++[(piece s b).1]) (piece s b).2.1 (piece s b).2.2 else(ks,s,b)
def XCb (piece:Rdr) (s:List Int) (b:Bool):Rd Nd :=
 let l:=X6Q piece s.length [] s b
 if l.1.length=0 then(X8I,l.2.1,true)else(ofN 3 l.1,l.2)
def X78 (row:Rdr):Nat→List Nd→List Int→Bool→Rd (List Nd)
 | 0,ks,s,b=>(ks,s,b)
 | f+1,ks,s,b=>if b=false∧nx s=124 then X78 row f (ks++[(row s.tail b).1]) (row s.tail b).2.1 (row s.tail b).2.2 else(ks,s,b)
def XFh (row:Rdr) (s:List Int) (b:Bool):Rd Nd :=
 let l:=X78 row s.length [(row s b).1] (row s b).2.1 (row s b).2.2
 (ofN 4 l.1,l.2)
def X3Y:Nat→Rdr
 | 0=>fun s _=>(X8I,s,true)
 | f+1=>XFh (XCb (X2M (X1Y (X3Y f))))
def rowF (f:Nat):Rdr:=XCb (X2M (X1Y (X3Y f)))
def XBe (f:Nat):Rdr:=X2M (X1Y (X3Y f))
def XJn (f:Nat):Rdr:=X1Y (X3Y f)
def Shr (X:Rdr):Prop:=∀ s b,(X s b).2.1 <:+ s
theorem X6R (s:List Int):s.tail <:+ s:=List.tail_suffix s
theorem X49 {s:List Int} (h:0≤nx s):s.tail.length+1=s.length:=by cases s with
 | nil=>simp [nx]at h
 | cons r s=>simp
theorem X2c (s:List Int) (b:Bool):(tkM s b).2.1 <:+ s:=by
 unfold tkM;split
 · exact List.suffix_refl _
 · exact X6R s
theorem XED (r:Int) (s:List Int):isR r s <:+ s:=by
 unfold isR;split
 · exact X6R s
 · exact List.suffix_refl _
theorem X57 (r:Int) (s:List Int) (b:Bool):(X0s r s b).1 <:+ s:=by
 unfold X0s;split
 · exact List.suffix_refl _
 · exact XED r s
theorem XEE (s:List Int) (b:Bool):(X0E s b).2.1 <:+ s:=by
 unfold X0E;split<;>exact X2c s b
theorem XEF (d:Int) (s:List Int) (b:Bool):(X1z d s b).2.1 <:+ s:=by
 unfold X1z;split
 ·
  split
  · exact X6R s
  · exact List.IsSuffix.trans (XEE _ _) (X6R s)
 · exact List.suffix_refl _
theorem XEG (s:List Int) (b:Bool):(X13 s b).2.1 <:+ s:=by
 unfold X13;split
 · exact X6R s
 ·
  split
  · exact X6R s
  ·
   split
   · exact X6R s
   ·
    split
    · exact List.IsSuffix.trans (X57 _ _ _) (List.IsSuffix.trans (XEF _ _ _) (List.IsSuffix.trans (XEE _ _) (X6R s)))
    · exact List.suffix_refl _
theorem XEH (s:List Int) (b:Bool):(X0Q s b).2.1 <:+ s:=by
 unfold X0Q;split
 · exact List.IsSuffix.trans (X2c _ _) (X2c s b)
 · exact X2c s b
theorem XJo (m:Rd Int):(hiM m).2.1 <:+ m.2.1:=by
 unfold hiM;split
 · exact List.IsSuffix.trans (XEH _ _) (X2c _ _)
 · exact List.suffix_refl _
theorem XJp:∀ (f:Nat) (l:List (Int×Int)) (s:List Int) (b:Bool),(X7f f l s b).2.1 <:+ s:=by
 intro f
 induction f with
 | zero=>intro l s b;exact List.suffix_refl _
 | succ f ih =>
  intro l s b
  unfold X7f;split
  · exact List.IsSuffix.trans (ih _ _ _) (List.IsSuffix.trans (XJo _) (XEH _ _))
  · exact List.suffix_refl _
theorem XAa (s:List Int) (b:Bool):(X9N s b).2.1 <:+ s:=by
 unfold X9N;exact List.IsSuffix.trans (X57 _ _ _) (List.IsSuffix.trans (XJp _ _ _ _) (XED _ _))
theorem X8J {alt:Rdr} (h:Shr alt):Shr (X1Y alt):=by
 intro s b
 unfold X1Y
 dsimp only
 split
 · exact List.IsSuffix.trans (X57 _ _ _) (List.IsSuffix.trans (h _ _) (X2c _ _))
 ·
  split
  · exact X2c _ _
  ·
   split
   · exact X2c _ _
   ·
    split
    · exact X2c _ _
    ·
     split
     · exact List.IsSuffix.trans (X2c _ _) (X2c _ _)
     ·
      split
      · exact List.IsSuffix.trans (XAa _ _) (X2c _ _)
      · exact X2c _ _
theorem X8K {atom:Rdr} (h:Shr atom):Shr (X2M atom):=by
 intro s b
 unfold X2M
 dsimp only
 split<;>exact List.IsSuffix.trans (XEG _ _) (h _ _)
theorem XJq {piece:Rdr} (h:Shr piece):∀ (f:Nat) (ks:List Nd) (s:List Int) (b:Bool),(X6Q piece f ks s b).2.1 <:+ s:=by
 intro f
 induction f with
 | zero=>intro l s b;exact List.suffix_refl _
 | succ f ih =>
  intro l s b
  unfold X6Q;split
  · exact List.IsSuffix.trans (ih _ _ _) (h _ _)
  · exact List.suffix_refl _
theorem XIB {piece:Rdr} (h:Shr piece):Shr (XCb piece):=by
 intro s b
 unfold XCb
 dsimp only
 split<;>exact XJq h _ _ _ _
theorem XJr {row:Rdr} (h:Shr row):∀ (f:Nat) (ks:List Nd) (s:List Int) (b:Bool),(X78 row f ks s b).2.1 <:+ s:=by
 intro f
 induction f with
 | zero=>intro l s b;exact List.suffix_refl _
 | succ f ih =>
  intro l s b
  unfold X78;split
  · exact List.IsSuffix.trans (ih _ _ _) (List.IsSuffix.trans (h _ _) (X6R _))
  · exact List.suffix_refl _
theorem XLi {row:Rdr} (h:Shr row):Shr (XFh row):=by
 intro s b
 unfold XFh
 exact List.IsSuffix.trans (XJr h _ _ _ _) (h _ _)
theorem X58:∀ f,Shr (X3Y f)
 | 0=>fun s _=>List.suffix_refl _
 | f+1=>XLi (XIB (X8K (X8J (X58 f))))
theorem X6A (f:Nat):Shr (rowF f):=XIB (X8K (X8J (X58 f)))
theorem X6S (f:Nat):Shr (XBe f):=X8K (X8J (X58 f))
theorem XGy (f:Nat):Shr (XJn f):=X8J (X58 f)
def XLj (X:Rdr):Prop:=∀ s b,0≤nx s→(X s b).2.1.length<s.length
theorem XJs {s:List Int} (h:0≤nx s) (b:Bool):(tkM s b).2.1.length<s.length:=by
 unfold tkM;rw [if_neg (by omega)]
 have:=X49 h;dsimp only;omega
theorem XJt {alt:Rdr} (h:Shr alt):XLj (X1Y alt):=by
 intro s b hn
 have ht:=XJs hn b
 unfold X1Y
 dsimp only
 split
 · exact Nat.lt_of_le_of_lt (List.IsSuffix.trans (X57 _ _ _) (h _ _)).length_le ht
 ·
  split
  · exact ht
  ·
   split
   · exact ht
   ·
    split
    · exact ht
    ·
     split
     · exact Nat.lt_of_le_of_lt (X2c _ _).length_le ht
     ·
      split
      · exact Nat.lt_of_le_of_lt (XAa _ _).length_le ht
      · exact ht
theorem XGz {atom:Rdr} (h:XLj atom):XLj (X2M atom):=by
 intro s b hn
 unfold X2M
 dsimp only
 split<;>exact Nat.lt_of_le_of_lt (XEG _ _).length_le (h _ _ hn)
theorem XEI (f:Nat):XLj (XBe f):=XGz (XJt (X58 f))
theorem X7g {s:List Int} {b:Bool} (h:(tkM s b).2.2=false):0≤nx s∧b=false:=by
 unfold tkM at h
 split at h
 · cases h
 · exact⟨by omega,h⟩
theorem XAb {s:List Int} {b:Bool} (h:(X0Q s b).2.2=false):(tkM s b).2.2=false:=by
 unfold X0Q at h
 split at h
 · exact(X7g h).2
 · exact h
theorem XLk {s:List Int} {b:Bool} (h:(X0Q s b).2.2=false):(X0Q s b).2.1.length<s.length:=by
 have h1:=XJs (X7g (XAb h)).1 b
 unfold X0Q;split
 · exact Nat.lt_of_le_of_lt (X2c _ _).length_le h1
 · exact h1
theorem XIC {m:Rd Int} (h:(hiM m).2.2=false):m.2.2=false:=by
 unfold hiM at h
 split at h
 · exact(X7g (X7g (XAb h)).2).2
 · exact h
end Go.Nfa
namespace Go.Vai
open Go.Nfa
noncomputable section
def okS (s:List Int):Prop:=∀ r∈s,X1w r=true
theorem okS.sfx {s t:List Int} (h:okS s) (k:t <:+ s):okS t:=fun r m=>h r (k.subset m)
theorem okS.tl {s:List Int} (h:okS s):okS s.tail:=h.sfx (X6R s)
theorem okS.nx {s:List Int} (h:okS s) (k:0≤nx s):X1w (nx s)=true:=by
 cases s with
 | nil=>simp [Nfa.nx]at k
 | cons r s=>exact h r (by simp [Nfa.nx])
theorem X59 {s:List Int} {b:Bool} (h:(tkM s b).2.2=false):0≤nx s∧b=false∧tkM s b=(nx s,s.tail,false)∧s.tail.length+1=s.length:=by
 obtain⟨h1,h2⟩:=X7g h
 exact⟨h1,h2,by subst h2;unfold tkM;rw [if_neg (by omega)],X49 h1⟩
theorem X4g {r:Int} {s:List Int} {b:Bool} (h:(X0s r s b).2=false):b=false∧nx s=r:=by
 unfold X0s at h
 cases b with
 | true=>simp at h
 | false=>exact⟨rfl,by simpa using h⟩
theorem X5q {s:List Int} {b:Bool} (h:(X0E s b).2.2=false):b=false∧0≤(X0E s b).1∧(X0E s b).1≤9:=by
 unfold X0E at h ⊢
 split at h
 · cases h
 ·
  rename_i hn
  have:=X59 h
  rw [if_neg hn]
  exact⟨this.2.1,by omega,by omega⟩
theorem XEJ {d:Int} {s:List Int} {b:Bool} (hd:0≤d∧d≤9) (h:(X1z d s b).2.2=false):b=false∧(X1z d s b).1≤9∧((X1z d s b).1 = -1∨d≤(X1z d s b).1):=by
 unfold X1z at h ⊢
 split at h
 ·
  rename_i h1
  rw [if_pos h1]
  split at h
  ·
   rename_i h2
   rw [if_pos h2];exact⟨h,by omega,.inl rfl⟩
  ·
   rename_i h2
   rw [if_neg h2]
   simp only [Bool.or_eq_false_iff,decide_eq_false_iff_not]at h
   have:=X5q h.1
   exact⟨this.1,this.2.2,.inr (by have:=h.2;dsimp only;omega)⟩
 ·
  rename_i h1
  rw [if_neg h1]
  exact⟨h,hd.2,.inr (Int.le_refl _)⟩
theorem XBf {s:List Int} {b:Bool} (h:(X13 s b).2.2=false):b=false∧((X13 s b).1.2.2=true→(X13 s b).2.1.length+1≤s.length∧0≤(X13 s b).1.1∧(X13 s b).1.1≤9∧(X13 s b).1.2.1≤9∧((X13 s b).1.2.1 = -1∨(X13 s b).1.1≤(X13 s b).1.2.1)):=by
 unfold X13 at h ⊢
 split at h
 · rename_i h1;rw [if_pos h1];exact⟨h,fun _=>⟨by have:=X49 (s:=s) (by omega);dsimp only;omega,(by decide:(0:Int)≤(0:Int)),(by decide:(0:Int)≤(9:Int)),(by decide:(-1:Int)≤9),.inl rfl⟩⟩
 ·
  rename_i h1;rw [if_neg h1]
  split at h
  · rename_i h1;rw [if_pos h1];exact⟨h,fun _=>⟨by have:=X49 (s:=s) (by omega);dsimp only;omega,(by decide:(0:Int)≤(1:Int)),(by decide:(1:Int)≤(9:Int)),(by decide:(-1:Int)≤9),.inl rfl⟩⟩
  ·
   rename_i h1;rw [if_neg h1]
   split at h
   · rename_i h1;rw [if_pos h1];exact⟨h,fun _=>⟨by have:=X49 (s:=s) (by omega);dsimp only;omega,(by decide:(0:Int)≤0),(by decide:(0:Int)≤9),(by decide:(1:Int)≤9),.inr (by decide:(0:Int)≤1)⟩⟩
   ·
    rename_i h1;rw [if_neg h1]
    split at h
    ·
     rename_i h1;rw [if_pos h1]
     have q1:=X4g h
     have q0:=X5q (s:=s.tail) (b:=b)
     have q2:(X0E s.tail b).2.2=false:=by
      have:=q1.1
      unfold X1z at this
      split at this
      ·
       split at this
       · exact this
       · simp only [Bool.or_eq_false_iff]at this;exact(X5q this.1).1
      · exact this
     have q3:=X5q q2
     have q4:=XEJ q3.2 q1.1
     refine⟨q3.1,fun _=>⟨?_,q3.2.1,q3.2.2,q4.2⟩⟩
     have l1:=(X57 125 (X1z (X0E s.tail b).1 (X0E s.tail b).2.1 (X0E s.tail b).2.2).2.1 (X1z (X0E s.tail b).1 (X0E s.tail b).2.1 (X0E s.tail b).2.2).2.2).length_le
     have l2:=(XEF (X0E s.tail b).1 (X0E s.tail b).2.1 (X0E s.tail b).2.2).length_le
     have l3:=(XEE s.tail b).length_le
     have:=X49 (s:=s) (by omega)
     dsimp only;omega
    · rename_i h1;rw [if_neg h1];exact⟨h,fun e=>by cases e⟩
theorem XBg {s:List Int} {b:Bool} (hs:okS s) (h:(X0Q s b).2.2=false):b=false∧X1w (X0Q s b).1=true:=by
 have h1:=X59 (XAb h)
 refine⟨h1.2.1,?_⟩
 unfold X0Q at h ⊢
 split at h
 ·
  rename_i e
  rw [if_pos e]
  have h2:=X59 h
  rw [h2.2.2.1]
  exact(hs.sfx (X2c s b)).nx h2.1
 ·
  rename_i e
  rw [if_neg e,h1.2.2.1]
  exact hs.nx h1.1
theorem XJu {m:Rd Int} (hs:okS m.2.1) (hm:X1w m.1=true) (h:(hiM m).2.2=false):X1w (hiM m).1=true:=by
 unfold hiM at h ⊢
 split at h
 ·
  rename_i e
  rw [if_pos e]
  exact(XBg (hs.sfx (X2c _ _)) h).2
 ·
  rename_i e
  rw [if_neg e];exact hm
theorem XBh:∀ {f:Nat} {l:List (Int×Int)} {s:List Int} {b:Bool},(X7f f l s b).2.2=false→b=false:=by
 intro f
 cases f with
 | zero=>intro l s b h;exact h
 | succ f =>
  intro l s b h
  unfold X7f at h
  split at h
  · rename_i e;exact e.1
  · exact h
theorem XEK:∀ {f:Nat} {l:List (Int×Int)} {s:List Int} {b:Bool},okS s→(X7f f l s b).2.2=false→l.all X0y=true→(X7f f l s b).1.all X0y=true:=by
 intro f
 induction f with
 | zero=>intro l s b _ _ h;exact h
 | succ f ih =>
  intro l s b hs h hl
  unfold X7f at h ⊢
  split at h
  ·
   rename_i e
   rw [if_pos e]
   have hb:=XBh h
   simp only [Bool.or_eq_false_iff,decide_eq_false_iff_not]at hb
   have hm:=XBg hs (XIC hb.1)
   have hs1:=hs.sfx (XEH s b)
   refine ih (hs1.sfx (XJo _)) h ?_
   rw [List.all_append,hl,Bool.true_and,List.all_cons,List.all_nil,Bool.and_true]
   simp only [X0y,hm.2,XJu hs1 hm.2 hb.1,Bool.true_and,decide_eq_true_eq]
   omega
  ·
   rename_i e
   rw [if_neg e];exact hl
theorem XAc {l:List (Int×Int)} {no:Bool} (h:l.all X0y=true) (h0:l.length≠0∨no=true):XBN (.mk 2 l no [] 0 0)=true:=by
 have:0<l.length∨no=true:=h0.imp (fun k=>by omega) id
 simp only [XBN,X39,X16,X2r,X4X,h,Bool.true_and,Bool.and_true,if_pos,decide_true,Bool.true_or,List.length_nil,Bool.or_true,Int.natCast_pos]
 rcases this with k | k<;>simp [k]
theorem X3r (k:Int) (l:List (Int×Int)) (no:Bool) (mn mx:Int):size (.mk k l no [] mn mx)=1:=by simp [size,X1c]
theorem XEL {r:Int} (h:X1w r=true):XBN (XD6 r)=true:=XAc (by simp [X0y,h]) (.inl (by simp))
def XEM (X:Rdr):Prop:=∀ s b,okS s→(X s b).2.2=false→b=false∧XBN (X s b).1=true∧size (X s b).1+2*(X s b).2.1.length+1≤2*s.length
theorem X9O {s:List Int} {b:Bool} (hs:okS s) (h:(X9N s b).2.2=false):b=false∧XBN (X9N s b).1=true∧size (X9N s b).1=1:=by
 unfold X9N at h ⊢
 dsimp only at h ⊢
 simp only [Bool.or_eq_false_iff,decide_eq_false_iff_not]at h
 have h1:=(X4g h.1).1
 have h2:=XBh h1
 exact⟨h2,XAc (XEK (hs.sfx (XED _ _)) h1 rfl) (.inl h.2),X3r _ _ _ _ _⟩
theorem XEN {alt:Rdr} (hl:Shr alt) (h:XEM alt):XEM (X1Y alt):=by
 intro s b hs hb
 have key:(tkM s b).2.2=false:=by
  unfold X1Y at hb
  dsimp only at hb
  split at hb
  · exact(h _ _ (hs.sfx (X2c s b)) (X4g hb).1).1
  ·
   split at hb
   · exact hb
   ·
    split at hb
    · exact hb
    ·
     split at hb
     · exact hb
     ·
      split at hb
      · exact(X7g hb).2
      ·
       split at hb
       · exact(X9O (hs.sfx (X2c s b)) hb).1
       · simp only [Bool.or_eq_false_iff]at hb;exact hb.1
 obtain⟨t1,t2,t3,t4⟩:=X59 key
 refine⟨t2,?_⟩
 unfold X1Y at hb ⊢
 rw [t3]at hb ⊢
 dsimp only at hb ⊢
 have hs1:=hs.tl
 split at hb
 ·
  rename_i e
  rw [if_pos e]
  have m1:=X4g hb
  have g:=h _ _ hs1 m1.1
  have ml:=(X57 41 (alt s.tail false).2.1 (alt s.tail false).2.2).length_le
  exact⟨g.2.1,by dsimp only;omega⟩
 ·
  rename_i e
  rw [if_neg e]
  split at hb
  ·
   rename_i e
   rw [if_pos e]
   exact⟨XAc rfl (.inr rfl),by rw [X3r];dsimp only;omega⟩
  ·
   rename_i e
   rw [if_neg e]
   split at hb
   ·
    rename_i e
    rw [if_pos e]
    exact⟨(by decide:XBN (.mk 6 [] false [] 0 0)=true),by rw [X3r];dsimp only;omega⟩
   ·
    rename_i e
    rw [if_neg e]
    split at hb
    ·
     rename_i e
     rw [if_pos e]
     exact⟨(by decide:XBN (.mk 7 [] false [] 0 0)=true),by rw [X3r];dsimp only;omega⟩
    ·
     rename_i e
     rw [if_neg e]
     split at hb
     ·
      rename_i e
      rw [if_pos e]
      obtain⟨u1,u2,u3,u4⟩:=X59 hb
      rw [u3]
      exact⟨XEL (hs1.nx u1),by rw [XD6,X3r];dsimp only;omega⟩
     ·
      rename_i e
      rw [if_neg e]
      split at hb
      ·
       rename_i e
       rw [if_pos e]
       have g:=X9O hs1 hb
       have gl:=(XAa s.tail false).length_le
       exact⟨g.2.1,by rw [g.2.2];omega⟩
      ·
       rename_i e
       rw [if_neg e]
       exact⟨XEL (hs.nx t1),by rw [XD6,X3r];dsimp only;omega⟩
theorem XCc {atom:Rdr} (hl:Shr atom) (h:XEM atom):XEM (X2M atom):=by
 intro s b hs hb
 unfold X2M at hb ⊢
 dsimp only at hb ⊢
 split at hb
 ·
  rename_i e
  rw [if_pos e]
  simp only [Bool.or_eq_false_iff]at hb
  have r:=XBf hb.1
  have g:=h s b hs r.1
  have r2:=r.2 e
  refine⟨g.1,?_,?_⟩
  ·
   simp only [XBN,X39,g.2.1,X16,X2r,X4X,Bool.true_and,Bool.and_true,List.length_nil,List.length_cons,decide_true,Bool.true_or,Bool.or_true,Int.reduceEq,reduceIte,or_self,decide_eq_true r2.2.1,decide_eq_true r2.2.2.1,decide_eq_true r2.2.2.2.1]
   rcases r2.2.2.2.2 with k | k<;>simp [k]
  · rw [size];simp only [X1c];omega
 ·
  rename_i e
  rw [if_neg e]
  have r:=XBf hb
  have g:=h s b hs r.1
  have l:=(XEG (atom s b).2.1 (atom s b).2.2).length_le
  exact⟨g.1,g.2.1,by dsimp only;omega⟩
theorem X5A:∀ {ks:List Nd} {n:Nd},X39 ks=true→XBN n=true→X39 (ks++[n])=true
 | [],n,_,h=>by simp [X39,h]
 | k::ks,n,h,hn=>by
  rw [X39,Bool.and_eq_true]at h
  rw [List.cons_append,X39,h.1,X5A h.2 hn];rfl
theorem X5B:∀ (ks:List Nd) (n:Nd),X1c (ks++[n])=X1c ks+size n
 | [],n=>by simp [X1c]
 | k::ks,n=>by rw [List.cons_append,X1c,X5B ks n,X1c];omega
theorem XEO {piece:Rdr} (hl:Shr piece) (h:XEM piece):∀ (f:Nat) (ks:List Nd) (s:List Int) (b:Bool),okS s→(X6Q piece f ks s b).2.2=false→b=false∧(X39 ks=true→X39 (X6Q piece f ks s b).1=true) ∧
  X1c (X6Q piece f ks s b).1+2*(X6Q piece f ks s b).2.1.length+(X6Q piece f ks s b).1.length≤X1c ks+2*s.length+ks.length:=by
 intro f
 induction f with
 | zero=>intro ks s b _ hb;exact⟨hb,fun h=>h,Nat.le_refl _⟩
 | succ f ih =>
  intro ks s b hs hb
  unfold X6Q at hb ⊢
  split at hb
  ·
   rename_i e
   rw [if_pos e]
   obtain⟨i1,i2,i3⟩:=ih _ _ _ (hs.sfx (hl s b)) hb
   have g:=h s b hs i1
   refine⟨e.1,fun k=>i2 (X5A k g.2.1),?_⟩
   rw [X5B,List.length_append,List.length_singleton]at i3
   omega
  ·
   rename_i e
   rw [if_neg e];exact⟨hb,fun h=>h,Nat.le_refl _⟩
theorem XEP {k:Int} {ks:List Nd} (hk:k=3∨k=4) (h0:¬ ks.length=0) (h:X39 ks=true):XBN (ofN k ks)=true∧size (ofN k ks)+1≤X1c ks+ks.length:=by
 unfold ofN
 split
 ·
  rename_i e
  cases ks with
  | nil=>simp at e
  | cons n ns =>
   have:ns=[]:=List.length_eq_zero_iff.1 (by simpa using e)
   subst this
   simp only [X39,Bool.and_true]at h
   exact⟨h,by simp [X1c]⟩
 ·
  have h2:(2:Int)≤(ks.length:Nat):=by omega
  refine⟨?_,by rw [size];omega⟩
  rcases hk with rfl | rfl<;>simp only [XBN,h,X16,X2r,X4X,Bool.true_and,Bool.and_true,List.length_nil,decide_true,Bool.true_or,Bool.or_true,Int.reduceEq,reduceIte,or_self,or_true,true_or,decide_eq_true h2,Bool.or_self,Bool.not_false,Int.natCast_zero,Int.ofNat_zero]<;>simp
theorem XH0 {piece:Rdr} (hl:Shr piece) (h:XEM piece):XEM (XCb piece):=by
 intro s b hs hb
 unfold XCb at hb ⊢
 dsimp only at hb ⊢
 split at hb
 · cases hb
 ·
  rename_i e
  rw [if_neg e]
  have g:=XEO hl h _ _ _ _ hs hb
  have o:=XEP (.inl rfl) e (g.2.1 rfl)
  refine⟨g.1,o.1,?_⟩
  have:=g.2.2
  simp only [X1c,List.length_nil]at this
  have:=o.2
  dsimp only;omega
theorem XEQ {row:Rdr} (hl:Shr row) (h:XEM row):∀ (f:Nat) (ks:List Nd) (s:List Int) (b:Bool),okS s→(X78 row f ks s b).2.2=false→b=false∧(X39 ks=true→X39 (X78 row f ks s b).1=true) ∧
  X1c (X78 row f ks s b).1+2*(X78 row f ks s b).2.1.length+(X78 row f ks s b).1.length≤X1c ks+2*s.length+ks.length∧ks.length≤(X78 row f ks s b).1.length:=by
 intro f
 induction f with
 | zero=>intro ks s b _ hb;exact⟨hb,fun h=>h,Nat.le_refl _,Nat.le_refl _⟩
 | succ f ih =>
  intro ks s b hs hb
  unfold X78 at hb ⊢
  split at hb
  ·
   rename_i e
   rw [if_pos e]
   obtain⟨i1,i2,i3,i4⟩:=ih _ _ _ (hs.tl.sfx (hl s.tail b)) hb
   have g:=h s.tail b hs.tl i1
   have:=X49 (s:=s) (by omega)
   refine⟨e.1,fun k=>i2 (X5A k g.2.1),?_,?_⟩
   ·
    rw [X5B,List.length_append,List.length_singleton]at i3
    omega
   · rw [List.length_append,List.length_singleton]at i4;omega
  ·
   rename_i e
   rw [if_neg e];exact⟨hb,fun h=>h,Nat.le_refl _,Nat.le_refl _⟩
theorem XH1 {row:Rdr} (hl:Shr row) (h:XEM row):XEM (XFh row):=by
 intro s b hs hb
 unfold XFh at hb ⊢
 dsimp only at hb ⊢
 have g:=XEQ hl h _ _ _ _ (hs.sfx (hl s b)) hb
 have r:=h s b hs g.1
 have o:=XEP (k:=4) (.inr rfl) (by have:=g.2.2.2;simp only [List.length_singleton]at this;omega) (g.2.1 (by simp [X39,r.2.1]))
 refine⟨r.1,o.1,?_⟩
 have:=g.2.2.1
 simp only [X1c,List.length_singleton]at this
 have:=o.2
 omega
theorem X9P:∀ f,XEM (X3Y f)
 | 0=>fun s b _ h=>by cases h
 | f+1=>XH1 (X6A f) (XH0 (X6S f) (XCc (XGy f) (XEN (X58 f) (X9P f))))
end
end Go.Vai

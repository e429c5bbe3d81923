/-
  What is proved here: a reader of patterns as a function over lists of signs; how much it takes; what follows a whole one  what the reader of patterns reads, if it is not bad, may be a pattern, and is no greater than what w No conditions but those that the theorems state.
-/
import Derived.Test.YtiebldaihnbkmaaGreatDoorPureNfa1
import Derived.Test.YtiebldaihnbkmaaGreatDoorNA
set_option linter.unusedVariables false
set_option linter.unusedSimpArgs false
namespace Go.Nfa
def nx:List Int→Int
 | [] => -1
 | r::_=>r
abbrev Rd (α:Type):=α×List Int×Bool
def tkM (s:List Int) (b:Bool):Rd Int:=if nx s<0 then(nx s,s,true)else(nx s,s.tail,b)
def isR (r:Int) (s:List Int):List Int:=if nx s=r then s.tail else s
def X0i (r:Int) (s:List Int) (b:Bool):List Int×Bool:=if b then(s,true)else(isR r s,!decide (nx s=r))
def X0C (s:List Int) (b:Bool):Rd Int:=if (tkM s b).1<48∨57<(tkM s b).1 then(0,(tkM s b).2.1,true)else((tkM s b).1 - 48,(tkM s b).2.1,(tkM s b).2.2)
def X1n (d:Int) (s:List Int) (b:Bool):Rd Int :=
 if nx s=44 then
  if nx s.tail=125 then(-1,s.tail,b)
  else((X0C s.tail b).1,(X0C s.tail b).2.1,(X0C s.tail b).2.2 || decide ((X0C s.tail b).1<d))
 else(d,s,b)
def X0t (s:List Int) (b:Bool):Rd (Int×Int×Bool) :=
 if nx s=42 then((0,-1,true),s.tail,b)
 else if nx s=43 then((1,-1,true),s.tail,b)
 else if nx s=63 then((0,1,true),s.tail,b)
 else if nx s=123 then
  (((X0C s.tail b).1,(X1n (X0C s.tail b).1 (X0C s.tail b).2.1 (X0C s.tail b).2.2).1,true),
   X0i 125 (X1n (X0C s.tail b).1 (X0C s.tail b).2.1 (X0C s.tail b).2.2).2.1 (X1n (X0C s.tail b).1 (X0C s.tail b).2.1 (X0C s.tail b).2.2).2.2)
 else((0,0,false),s,b)
def X0J (s:List Int) (b:Bool):Rd Int:=if (tkM s b).1=92 then tkM (tkM s b).2.1 (tkM s b).2.2 else tkM s b
def hiM (m:Rd Int):Rd Int :=
 if 2≤m.2.1.length∧m.2.1.getD 0 0=45∧¬ m.2.1.getD 1 0=93 then X0J (tkM m.2.1 m.2.2).2.1 (tkM m.2.1 m.2.2).2.2 else m
def X6n:Nat→List (Int×Int)→List Int→Bool→Rd (List (Int×Int))
 | 0,l,s,b=>(l,s,b)
 | f+1,l,s,b=>if b=false∧¬ nx s=93 then
   X6n f (l++[((X0J s b).1,(hiM (X0J s b)).1)]) (hiM (X0J s b)).2.1 ((hiM (X0J s b)).2.2 || decide ((hiM (X0J s b)).1<(X0J s b).1))
  else(l,s,b)
def X8C (s:List Int) (b:Bool):Rd Nd :=
 let l:=X6n ((isR 94 s).length+1) [] (isR 94 s) b
 (.mk 2 l.1 (decide (nx s=94)) [] 0 0,(X0i 93 l.2.1 l.2.2).1,(X0i 93 l.2.1 l.2.2).2 || decide (l.1.length=0))
def X34 (r:Int):Nd:=.mk 2 [(r,r)] false [] 0 0
def X9M:Nd:=.mk 0 [] false [] 0 0
def specB (r:Int):Bool:=decide (r∈[124,42,43,63,123,125,40,41,91,93,46,94,36,92])
def ofN (k:Int) (ks:List Nd):Nd:=if ks.length=1 then ks.headD X9M else .mk k [] false ks 0 0
abbrev Rdr:=List Int→Bool→Rd Nd
def X1A (alt:Rdr) (s:List Int) (b:Bool):Rd Nd :=
 let r:=(tkM s b).1
 let s1:=(tkM s b).2.1
 let b1:=(tkM s b).2.2
 if r=40 then((alt s1 b1).1,X0i 41 (alt s1 b1).2.1 (alt s1 b1).2.2)
 else if r=46 then(.mk 2 [] true [] 0 0,s1,b1)
 else if r=94 then(.mk 6 [] false [] 0 0,s1,b1)
 else if r=36 then(.mk 7 [] false [] 0 0,s1,b1)
 else if r=92 then(X34 (tkM s1 b1).1,(tkM s1 b1).2)
 else if r=91 then X8C s1 b1
 else(X34 r,s1,b1 || specB r)
def X1T (atom:Rdr) (s:List Int) (b:Bool):Rd Nd :=
 let n:=atom s b
 let q:=X0t n.2.1 n.2.2
 if q.1.2.2 then(.mk 5 [] false [n.1] q.1.1 q.1.2.1,q.2.1,q.2.2 || decide (nx s=94∨nx s=36))else(n.1,q.2)
def X4z (piece:Rdr):Nat→List Nd→List Int→Bool→Rd (List Nd)
 | 0,ks,s,b=>(ks,s,b)
 | f+1,ks,s,b=>if b=false∧0≤nx s∧¬ nx s=124∧¬ nx s=41 then X4z piece f (ks++[(piece s b).1]) (piece s b).2.1 (piece s b).2.2 else(ks,s,b)
def X94 (piece:Rdr) (s:List Int) (b:Bool):Rd Nd :=
 let l:=X4z piece s.length [] s b
 if l.1.length=0 then(X9M,l.2.1,true)else(ofN 3 l.1,l.2)
def X5Y (row:Rdr):Nat→List Nd→List Int→Bool→Rd (List Nd)
 | 0,ks,s,b=>(ks,s,b)
 | f+1,ks,s,b=>if b=false∧nx s=124 then X5Y row f (ks++[(row s.tail b).1]) (row s.tail b).2.1 (row s.tail b).2.2 else(ks,s,b)
def XBj (row:Rdr) (s:List Int) (b:Bool):Rd Nd :=
 let l:=X5Y row s.length [(row s b).1] (row s b).2.1 (row s b).2.2
 (ofN 4 l.1,l.2)
def X2l:Nat→Rdr
 | 0=>fun s _=>(X9M,s,true)
 | f+1=>XBj (X94 (X1T (X1A (X2l f))))
def rowF (f:Nat):Rdr:=X94 (X1T (X1A (X2l f)))
def XAJ (f:Nat):Rdr:=X1T (X1A (X2l f))
def XGq (f:Nat):Rdr:=X1A (X2l f)
def Shr (X:Rdr):Prop:=∀ s b,(X s b).2.1 <:+ s
theorem X5Z (s:List Int):s.tail <:+ s:=List.tail_suffix s
theorem X3h {s:List Int} (h:0≤nx s):s.tail.length+1=s.length:=by cases s with
 | nil=>simp [nx]at h
 | cons r s=>simp
theorem X2J (s:List Int) (b:Bool):(tkM s b).2.1 <:+ s:=by
 unfold tkM;split
 · exact List.suffix_refl _
 · exact X5Z s
theorem XCU (r:Int) (s:List Int):isR r s <:+ s:=by
 unfold isR;split
 · exact X5Z s
 · exact List.suffix_refl _
theorem X4W (r:Int) (s:List Int) (b:Bool):(X0i r s b).1 <:+ s:=by
 unfold X0i;split
 · exact List.suffix_refl _
 · exact XCU r s
theorem XCV (s:List Int) (b:Bool):(X0C s b).2.1 <:+ s:=by
 unfold X0C;split<;>exact X2J s b
theorem XCW (d:Int) (s:List Int) (b:Bool):(X1n d s b).2.1 <:+ s:=by
 unfold X1n;split
 ·
  split
  · exact X5Z s
  · exact List.IsSuffix.trans (XCV _ _) (X5Z s)
 · exact List.suffix_refl _
theorem XCX (s:List Int) (b:Bool):(X0t s b).2.1 <:+ s:=by
 unfold X0t;split
 · exact X5Z s
 ·
  split
  · exact X5Z s
  ·
   split
   · exact X5Z s
   ·
    split
    · exact List.IsSuffix.trans (X4W _ _ _) (List.IsSuffix.trans (XCW _ _ _) (List.IsSuffix.trans (XCV _ _) (X5Z s)))
    · exact List.suffix_refl _
theorem XCY (s:List Int) (b:Bool):(X0J s b).2.1 <:+ s:=by
 unfold X0J;split
 · exact List.IsSuffix.trans (X2J _ _) (X2J s b)
 · exact X2J s b
theorem XGr (m:Rd Int):(hiM m).2.1 <:+ m.2.1:=by
 unfold hiM;split
 · exact List.IsSuffix.trans (XCY _ _) (X2J _ _)
 · exact List.suffix_refl _
theorem XGs:∀ (f:Nat) (l:List (Int×Int)) (s:List Int) (b:Bool),(X6n f l s b).2.1 <:+ s:=by
 intro f
 induction f with
 | zero=>intro l s b;exact List.suffix_refl _
 | succ f ih =>
  intro l s b
  unfold X6n;split
  · exact List.IsSuffix.trans (ih _ _ _) (List.IsSuffix.trans (XGr _) (XCY _ _))
  · exact List.suffix_refl _
theorem X9N (s:List Int) (b:Bool):(X8C s b).2.1 <:+ s:=by
 unfold X8C;exact List.IsSuffix.trans (X4W _ _ _) (List.IsSuffix.trans (XGs _ _ _ _) (XCU _ _))
theorem X7M {alt:Rdr} (h:Shr alt):Shr (X1A alt):=by
 intro s b
 unfold X1A
 dsimp only
 split
 · exact List.IsSuffix.trans (X4W _ _ _) (List.IsSuffix.trans (h _ _) (X2J _ _))
 ·
  split
  · exact X2J _ _
  ·
   split
   · exact X2J _ _
   ·
    split
    · exact X2J _ _
    ·
     split
     · exact List.IsSuffix.trans (X2J _ _) (X2J _ _)
     ·
      split
      · exact List.IsSuffix.trans (X9N _ _) (X2J _ _)
      · exact X2J _ _
theorem X7N {atom:Rdr} (h:Shr atom):Shr (X1T atom):=by
 intro s b
 unfold X1T
 dsimp only
 split<;>exact List.IsSuffix.trans (XCX _ _) (h _ _)
theorem XGt {piece:Rdr} (h:Shr piece):∀ (f:Nat) (ks:List Nd) (s:List Int) (b:Bool),(X4z piece f ks s b).2.1 <:+ s:=by
 intro f
 induction f with
 | zero=>intro l s b;exact List.suffix_refl _
 | succ f ih =>
  intro l s b
  unfold X4z;split
  · exact List.IsSuffix.trans (ih _ _ _) (h _ _)
  · exact List.suffix_refl _
theorem XFi {piece:Rdr} (h:Shr piece):Shr (X94 piece):=by
 intro s b
 unfold X94
 dsimp only
 split<;>exact XGt h _ _ _ _
theorem XGu {row:Rdr} (h:Shr row):∀ (f:Nat) (ks:List Nd) (s:List Int) (b:Bool),(X5Y row f ks s b).2.1 <:+ s:=by
 intro f
 induction f with
 | zero=>intro l s b;exact List.suffix_refl _
 | succ f ih =>
  intro l s b
  unfold X5Y;split
  · exact List.IsSuffix.trans (ih _ _ _) (List.IsSuffix.trans (h _ _) (X5Z _))
  · exact List.suffix_refl _
theorem XIk {row:Rdr} (h:Shr row):Shr (XBj row):=by
 intro s b
 unfold XBj
 exact List.IsSuffix.trans (XGu h _ _ _ _) (h _ _)
theorem X4X:∀ f,Shr (X2l f)
 | 0=>fun s _=>List.suffix_refl _
 | f+1=>XIk (XFi (X7N (X7M (X4X f))))
theorem X9O (f:Nat):Shr (rowF f):=XFi (X7N (X7M (X4X f)))
theorem X5a (f:Nat):Shr (XAJ f):=X7N (X7M (X4X f))
theorem XEg (f:Nat):Shr (XGq f):=X7M (X4X f)
def XIl (X:Rdr):Prop:=∀ s b,0≤nx s→(X s b).2.1.length<s.length
theorem XGv {s:List Int} (h:0≤nx s) (b:Bool):(tkM s b).2.1.length<s.length:=by
 unfold tkM;rw [if_neg (by omega)]
 have:=X3h h;dsimp only;omega
theorem XGw {alt:Rdr} (h:Shr alt):XIl (X1A alt):=by
 intro s b hn
 have ht:=XGv hn b
 unfold X1A
 dsimp only
 split
 · exact Nat.lt_of_le_of_lt (List.IsSuffix.trans (X4W _ _ _) (h _ _)).length_le ht
 ·
  split
  · exact ht
  ·
   split
   · exact ht
   ·
    split
    · exact ht
    ·
     split
     · exact Nat.lt_of_le_of_lt (X2J _ _).length_le ht
     ·
      split
      · exact Nat.lt_of_le_of_lt (X9N _ _).length_le ht
      · exact ht
theorem XEh {atom:Rdr} (h:XIl atom):XIl (X1T atom):=by
 intro s b hn
 unfold X1T
 dsimp only
 split<;>exact Nat.lt_of_le_of_lt (XCX _ _).length_le (h _ _ hn)
theorem XCZ (f:Nat):XIl (XAJ f):=XEh (XGw (X4X f))
theorem X6o {s:List Int} {b:Bool} (h:(tkM s b).2.2=false):0≤nx s∧b=false:=by
 unfold tkM at h
 split at h
 · cases h
 · exact⟨by omega,h⟩
theorem X9P {s:List Int} {b:Bool} (h:(X0J s b).2.2=false):(tkM s b).2.2=false:=by
 unfold X0J at h
 split at h
 · exact(X6o h).2
 · exact h
theorem XIm {s:List Int} {b:Bool} (h:(X0J s b).2.2=false):(X0J s b).2.1.length<s.length:=by
 have h1:=XGv (X6o (X9P h)).1 b
 unfold X0J;split
 · exact Nat.lt_of_le_of_lt (X2J _ _).length_le h1
 · exact h1
theorem XFj {m:Rd Int} (h:(hiM m).2.2=false):m.2.2=false:=by
 unfold hiM at h
 split at h
 · exact(X6o (X6o (X9P h)).2).2
 · exact h
end Go.Nfa
namespace Go.Vai
open Go.Nfa
noncomputable section
def okS (s:List Int):Prop:=∀ r∈s,X1l r=true
theorem okS.sfx {s t:List Int} (h:okS s) (k:t <:+ s):okS t:=fun r m=>h r (k.subset m)
theorem okS.tl {s:List Int} (h:okS s):okS s.tail:=h.sfx (X5Z s)
theorem okS.nx {s:List Int} (h:okS s) (k:0≤nx s):X1l (nx s)=true:=by
 cases s with
 | nil=>simp [Nfa.nx]at k
 | cons r s=>exact h r (by simp [Nfa.nx])
theorem X4Y {s:List Int} {b:Bool} (h:(tkM s b).2.2=false):0≤nx s∧b=false∧tkM s b=(nx s,s.tail,false)∧s.tail.length+1=s.length:=by
 obtain⟨h1,h2⟩:=X6o h
 exact⟨h1,h2,by subst h2;unfold tkM;rw [if_neg (by omega)],X3h h1⟩
theorem X4A {r:Int} {s:List Int} {b:Bool} (h:(X0i r s b).2=false):b=false∧nx s=r:=by
 unfold X0i at h
 cases b with
 | true=>simp at h
 | false=>exact⟨rfl,by simpa using h⟩
theorem X59 {s:List Int} {b:Bool} (h:(X0C s b).2.2=false):b=false∧0≤(X0C s b).1∧(X0C s b).1≤9:=by
 unfold X0C at h ⊢
 split at h
 · cases h
 ·
  rename_i hn
  have:=X4Y h
  rw [if_neg hn]
  exact⟨this.2.1,by omega,by omega⟩
theorem XCa {d:Int} {s:List Int} {b:Bool} (hd:0≤d∧d≤9) (h:(X1n d s b).2.2=false):b=false∧(X1n d s b).1≤9∧((X1n d s b).1 = -1∨d≤(X1n d s b).1):=by
 unfold X1n at h ⊢
 split at h
 ·
  rename_i h1
  rw [if_pos h1]
  split at h
  ·
   rename_i h2
   rw [if_pos h2];exact⟨h,by omega,.inl rfl⟩
  ·
   rename_i h2
   rw [if_neg h2]
   simp only [Bool.or_eq_false_iff,decide_eq_false_iff_not]at h
   have:=X59 h.1
   exact⟨this.1,this.2.2,.inr (by have:=h.2;dsimp only;omega)⟩
 ·
  rename_i h1
  rw [if_neg h1]
  exact⟨h,hd.2,.inr (Int.le_refl _)⟩
theorem XAK {s:List Int} {b:Bool} (h:(X0t s b).2.2=false):b=false∧((X0t s b).1.2.2=true→(X0t s b).2.1.length+1≤s.length∧0≤(X0t s b).1.1∧(X0t s b).1.1≤9∧(X0t s b).1.2.1≤9∧((X0t s b).1.2.1 = -1∨(X0t s b).1.1≤(X0t s b).1.2.1)):=by
 unfold X0t at h ⊢
 split at h
 · rename_i h1;rw [if_pos h1];exact⟨h,fun _=>⟨by have:=X3h (s:=s) (by omega);dsimp only;omega,(by decide:(0:Int)≤(0:Int)),(by decide:(0:Int)≤(9:Int)),(by decide:(-1:Int)≤9),.inl rfl⟩⟩
 ·
  rename_i h1;rw [if_neg h1]
  split at h
  · rename_i h1;rw [if_pos h1];exact⟨h,fun _=>⟨by have:=X3h (s:=s) (by omega);dsimp only;omega,(by decide:(0:Int)≤(1:Int)),(by decide:(1:Int)≤(9:Int)),(by decide:(-1:Int)≤9),.inl rfl⟩⟩
  ·
   rename_i h1;rw [if_neg h1]
   split at h
   · rename_i h1;rw [if_pos h1];exact⟨h,fun _=>⟨by have:=X3h (s:=s) (by omega);dsimp only;omega,(by decide:(0:Int)≤0),(by decide:(0:Int)≤9),(by decide:(1:Int)≤9),.inr (by decide:(0:Int)≤1)⟩⟩
   ·
    rename_i h1;rw [if_neg h1]
    split at h
    ·
     rename_i h1;rw [if_pos h1]
     have q1:=X4A h
     have q0:=X59 (s:=s.tail) (b:=b)
     have q2:(X0C s.tail b).2.2=false:=by
      have:=q1.1
      unfold X1n at this
      split at this
      ·
       split at this
       · exact this
       · simp only [Bool.or_eq_false_iff]at this;exact(X59 this.1).1
      · exact this
     have q3:=X59 q2
     have q4:=XCa q3.2 q1.1
     refine⟨q3.1,fun _=>⟨?_,q3.2.1,q3.2.2,q4.2⟩⟩
     have l1:=(X4W 125 (X1n (X0C s.tail b).1 (X0C s.tail b).2.1 (X0C s.tail b).2.2).2.1 (X1n (X0C s.tail b).1 (X0C s.tail b).2.1 (X0C s.tail b).2.2).2.2).length_le
     have l2:=(XCW (X0C s.tail b).1 (X0C s.tail b).2.1 (X0C s.tail b).2.2).length_le
     have l3:=(XCV s.tail b).length_le
     have:=X3h (s:=s) (by omega)
     dsimp only;omega
    · rename_i h1;rw [if_neg h1];exact⟨h,fun e=>by cases e⟩
theorem XAL {s:List Int} {b:Bool} (hs:okS s) (h:(X0J s b).2.2=false):b=false∧X1l (X0J s b).1=true:=by
 have h1:=X4Y (X9P h)
 refine⟨h1.2.1,?_⟩
 unfold X0J at h ⊢
 split at h
 ·
  rename_i e
  rw [if_pos e]
  have h2:=X4Y h
  rw [h2.2.2.1]
  exact(hs.sfx (X2J s b)).nx h2.1
 ·
  rename_i e
  rw [if_neg e,h1.2.2.1]
  exact hs.nx h1.1
theorem XGx {m:Rd Int} (hs:okS m.2.1) (hm:X1l m.1=true) (h:(hiM m).2.2=false):X1l (hiM m).1=true:=by
 unfold hiM at h ⊢
 split at h
 ·
  rename_i e
  rw [if_pos e]
  exact(XAL (hs.sfx (X2J _ _)) h).2
 ·
  rename_i e
  rw [if_neg e];exact hm
theorem XAM:∀ {f:Nat} {l:List (Int×Int)} {s:List Int} {b:Bool},(X6n f l s b).2.2=false→b=false:=by
 intro f
 cases f with
 | zero=>intro l s b h;exact h
 | succ f =>
  intro l s b h
  unfold X6n at h
  split at h
  · rename_i e;exact e.1
  · exact h
theorem XCb:∀ {f:Nat} {l:List (Int×Int)} {s:List Int} {b:Bool},okS s→(X6n f l s b).2.2=false→l.all X0o=true→(X6n f l s b).1.all X0o=true:=by
 intro f
 induction f with
 | zero=>intro l s b _ _ h;exact h
 | succ f ih =>
  intro l s b hs h hl
  unfold X6n at h ⊢
  split at h
  ·
   rename_i e
   rw [if_pos e]
   have hb:=XAM h
   simp only [Bool.or_eq_false_iff,decide_eq_false_iff_not]at hb
   have hm:=XAL hs (XFj hb.1)
   have hs1:=hs.sfx (XCY s b)
   refine ih (hs1.sfx (XGr _)) h ?_
   rw [List.all_append,hl,Bool.true_and,List.all_cons,List.all_nil,Bool.and_true]
   simp only [X0o,hm.2,XGx hs1 hm.2 hb.1,Bool.true_and,decide_eq_true_eq]
   omega
  ·
   rename_i e
   rw [if_neg e];exact hl
theorem X9Q {l:List (Int×Int)} {no:Bool} (h:l.all X0o=true) (h0:l.length≠0∨no=true):XA3 (.mk 2 l no [] 0 0)=true:=by
 have:0<l.length∨no=true:=h0.imp (fun k=>by omega) id
 simp only [XA3,X2g,X16,X2Q,X3o,h,Bool.true_and,Bool.and_true,if_pos,decide_true,Bool.true_or,List.length_nil,Bool.or_true,Int.natCast_pos]
 rcases this with k | k<;>simp [k]
theorem X2N (k:Int) (l:List (Int×Int)) (no:Bool) (mn mx:Int):size (.mk k l no [] mn mx)=1:=by simp [size,X1O]
theorem X9R {r:Int} (h:X1l r=true):XA3 (X34 r)=true:=X9Q (by simp [X0o,h]) (.inl (by simp))
def XCc (X:Rdr):Prop:=∀ s b,okS s→(X s b).2.2=false→b=false∧XA3 (X s b).1=true∧size (X s b).1+2*(X s b).2.1.length+1≤2*s.length
theorem X8D {s:List Int} {b:Bool} (hs:okS s) (h:(X8C s b).2.2=false):b=false∧XA3 (X8C s b).1=true∧size (X8C s b).1=1:=by
 unfold X8C at h ⊢
 dsimp only at h ⊢
 simp only [Bool.or_eq_false_iff,decide_eq_false_iff_not]at h
 have h1:=(X4A h.1).1
 have h2:=XAM h1
 exact⟨h2,X9Q (XCb (hs.sfx (XCU _ _)) h1 rfl) (.inl h.2),X2N _ _ _ _ _⟩
theorem XCd {alt:Rdr} (hl:Shr alt) (h:XCc alt):XCc (X1A alt):=by
 intro s b hs hb
 have key:(tkM s b).2.2=false:=by
  unfold X1A at hb
  dsimp only at hb
  split at hb
  · exact(h _ _ (hs.sfx (X2J s b)) (X4A hb).1).1
  ·
   split at hb
   · exact hb
   ·
    split at hb
    · exact hb
    ·
     split at hb
     · exact hb
     ·
      split at hb
      · exact(X6o hb).2
      ·
       split at hb
       · exact(X8D (hs.sfx (X2J s b)) hb).1
       · simp only [Bool.or_eq_false_iff]at hb;exact hb.1
 obtain⟨t1,t2,t3,t4⟩:=X4Y key
 refine⟨t2,?_⟩
 unfold X1A at hb ⊢
 rw [t3]at hb ⊢
 dsimp only at hb ⊢
 have hs1:=hs.tl
 split at hb
 ·
  rename_i e
  rw [if_pos e]
  have m1:=X4A hb
  have g:=h _ _ hs1 m1.1
  have ml:=(X4W 41 (alt s.tail false).2.1 (alt s.tail false).2.2).length_le
  exact⟨g.2.1,by dsimp only;omega⟩
 ·
  rename_i e
  rw [if_neg e]
  split at hb
  ·
   rename_i e
   rw [if_pos e]
   exact⟨X9Q rfl (.inr rfl),by rw [X2N];dsimp only;omega⟩
  ·
   rename_i e
   rw [if_neg e]
   split at hb
   ·
    rename_i e
    rw [if_pos e]
    exact⟨(by decide:XA3 (.mk 6 [] false [] 0 0)=true),by rw [X2N];dsimp only;omega⟩
   ·
    rename_i e
    rw [if_neg e]
    split at hb
    ·
     rename_i e
     rw [if_pos e]
     exact⟨(by decide:XA3 (.mk 7 [] false [] 0 0)=true),by rw [X2N];dsimp only;omega⟩
    ·
     rename_i e
     rw [if_neg e]
     split at hb
     ·
      rename_i e
      rw [if_pos e]
      obtain⟨u1,u2,u3,u4⟩:=X4Y hb
      rw [u3]
      exact⟨X9R (hs1.nx u1),by rw [X34,X2N];dsimp only;omega⟩
     ·
      rename_i e
      rw [if_neg e]
      split at hb
      ·
       rename_i e
       rw [if_pos e]
       have g:=X8D hs1 hb
       have gl:=(X9N s.tail false).length_le
       exact⟨g.2.1,by rw [g.2.2];omega⟩
      ·
       rename_i e
       rw [if_neg e]
       exact⟨X9R (hs.nx t1),by rw [X34,X2N];dsimp only;omega⟩
theorem XBC {atom:Rdr} (hl:Shr atom) (h:XCc atom):XCc (X1T atom):=by
 intro s b hs hb
 unfold X1T at hb ⊢
 dsimp only at hb ⊢
 split at hb
 ·
  rename_i e
  rw [if_pos e]
  simp only [Bool.or_eq_false_iff]at hb
  have r:=XAK hb.1
  have g:=h s b hs r.1
  have r2:=r.2 e
  refine⟨g.1,?_,?_⟩
  ·
   simp only [XA3,X2g,g.2.1,X16,X2Q,X3o,Bool.true_and,Bool.and_true,List.length_nil,List.length_cons,decide_true,Bool.true_or,Bool.or_true,Int.reduceEq,reduceIte,or_self,decide_eq_true r2.2.1,decide_eq_true r2.2.2.1,decide_eq_true r2.2.2.2.1]
   rcases r2.2.2.2.2 with k | k<;>simp [k]
  · rw [size];simp only [X1O];omega
 ·
  rename_i e
  rw [if_neg e]
  have r:=XAK hb
  have g:=h s b hs r.1
  have l:=(XCX (atom s b).2.1 (atom s b).2.2).length_le
  exact⟨g.1,g.2.1,by dsimp only;omega⟩
theorem X4Z:∀ {ks:List Nd} {n:Nd},X2g ks=true→XA3 n=true→X2g (ks++[n])=true
 | [],n,_,h=>by simp [X2g,h]
 | k::ks,n,h,hn=>by
  rw [X2g,Bool.and_eq_true]at h
  rw [List.cons_append,X2g,h.1,X4Z h.2 hn];rfl
theorem X4a:∀ (ks:List Nd) (n:Nd),X1O (ks++[n])=X1O ks+size n
 | [],n=>by simp [X1O]
 | k::ks,n=>by rw [List.cons_append,X1O,X4a ks n,X1O];omega
theorem XCe {piece:Rdr} (hl:Shr piece) (h:XCc piece):∀ (f:Nat) (ks:List Nd) (s:List Int) (b:Bool),okS s→(X4z piece f ks s b).2.2=false→b=false∧(X2g ks=true→X2g (X4z piece f ks s b).1=true) ∧
  X1O (X4z piece f ks s b).1+2*(X4z piece f ks s b).2.1.length+(X4z piece f ks s b).1.length≤X1O ks+2*s.length+ks.length:=by
 intro f
 induction f with
 | zero=>intro ks s b _ hb;exact⟨hb,fun h=>h,Nat.le_refl _⟩
 | succ f ih =>
  intro ks s b hs hb
  unfold X4z at hb ⊢
  split at hb
  ·
   rename_i e
   rw [if_pos e]
   obtain⟨i1,i2,i3⟩:=ih _ _ _ (hs.sfx (hl s b)) hb
   have g:=h s b hs i1
   refine⟨e.1,fun k=>i2 (X4Z k g.2.1),?_⟩
   rw [X4a,List.length_append,List.length_singleton]at i3
   omega
  ·
   rename_i e
   rw [if_neg e];exact⟨hb,fun h=>h,Nat.le_refl _⟩
theorem XCf {k:Int} {ks:List Nd} (hk:k=3∨k=4) (h0:¬ ks.length=0) (h:X2g ks=true):XA3 (ofN k ks)=true∧size (ofN k ks)+1≤X1O ks+ks.length:=by
 unfold ofN
 split
 ·
  rename_i e
  cases ks with
  | nil=>simp at e
  | cons n ns =>
   have:ns=[]:=List.length_eq_zero_iff.1 (by simpa using e)
   subst this
   simp only [X2g,Bool.and_true]at h
   exact⟨h,by simp [X1O]⟩
 ·
  have h2:(2:Int)≤(ks.length:Nat):=by omega
  refine⟨?_,by rw [size];omega⟩
  rcases hk with rfl | rfl<;>simp only [XA3,h,X16,X2Q,X3o,Bool.true_and,Bool.and_true,List.length_nil,decide_true,Bool.true_or,Bool.or_true,Int.reduceEq,reduceIte,or_self,or_true,true_or,decide_eq_true h2,Bool.or_self,Bool.not_false,Int.natCast_zero,Int.ofNat_zero]<;>simp
theorem XEi {piece:Rdr} (hl:Shr piece) (h:XCc piece):XCc (X94 piece):=by
 intro s b hs hb
 unfold X94 at hb ⊢
 dsimp only at hb ⊢
 split at hb
 · cases hb
 ·
  rename_i e
  rw [if_neg e]
  have g:=XCe hl h _ _ _ _ hs hb
  have o:=XCf (.inl rfl) e (g.2.1 rfl)
  refine⟨g.1,o.1,?_⟩
  have:=g.2.2
  simp only [X1O,List.length_nil]at this
  have:=o.2
  dsimp only;omega
theorem XCg {row:Rdr} (hl:Shr row) (h:XCc row):∀ (f:Nat) (ks:List Nd) (s:List Int) (b:Bool),okS s→(X5Y row f ks s b).2.2=false→b=false∧(X2g ks=true→X2g (X5Y row f ks s b).1=true) ∧
  X1O (X5Y row f ks s b).1+2*(X5Y row f ks s b).2.1.length+(X5Y row f ks s b).1.length≤X1O ks+2*s.length+ks.length∧ks.length≤(X5Y row f ks s b).1.length:=by
 intro f
 induction f with
 | zero=>intro ks s b _ hb;exact⟨hb,fun h=>h,Nat.le_refl _,Nat.le_refl _⟩
 | succ f ih =>
  intro ks s b hs hb
  unfold X5Y at hb ⊢
  split at hb
  ·
   rename_i e
   rw [if_pos e]
   obtain⟨i1,i2,i3,i4⟩:=ih _ _ _ (hs.tl.sfx (hl s.tail b)) hb
   have g:=h s.tail b hs.tl i1
   have:=X3h (s:=s) (by omega)
   refine⟨e.1,fun k=>i2 (X4Z k g.2.1),?_,?_⟩
   ·
    rw [X4a,List.length_append,List.length_singleton]at i3
    omega
   · rw [List.length_append,List.length_singleton]at i4;omega
  ·
   rename_i e
   rw [if_neg e];exact⟨hb,fun h=>h,Nat.le_refl _,Nat.le_refl _⟩
theorem XEj {row:Rdr} (hl:Shr row) (h:XCc row):XCc (XBj row):=by
 intro s b hs hb
 unfold XBj at hb ⊢
 dsimp only at hb ⊢
 have g:=XCg hl h _ _ _ _ (hs.sfx (hl s b)) hb
 have r:=h s b hs g.1
 have o:=XCf (k:=4) (.inr rfl) (by have:=g.2.2.2;simp only [List.length_singleton]at this;omega) (g.2.1 (by simp [X2g,r.2.1]))
 refine⟨r.1,o.1,?_⟩
 have:=g.2.2.1
 simp only [X1O,List.length_singleton]at this
 have:=o.2
 omega
theorem X8E:∀ f,XCc (X2l f)
 | 0=>fun s b _ h=>by cases h
 | f+1=>XEj (X9O f) (XEi (X5a f) (XBC (XEg f) (XCd (X4X f) (X8E f))))
end
end Go.Vai

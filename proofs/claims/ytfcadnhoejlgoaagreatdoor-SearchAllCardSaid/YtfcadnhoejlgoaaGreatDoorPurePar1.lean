/-
  What is proved here: a reader of patterns as a function over lists of signs; how much it takes; what follows a whole one  what the reader of patterns reads, if it is not bad, may be a pattern, and is no greater than what w No conditions but those that the theorems state.
-/
import Derived.Test.YtfcadnhoejlgoaaGreatDoorPureNfa1
import Derived.Test.YtfcadnhoejlgoaaGreatDoorNA
set_option linter.unusedVariables false
set_option linter.unusedSimpArgs false
namespace Go.Nfa
def nx:List Int→Int
 | [] => -1
 | r::_=>r
abbrev Rd (α:Type):=α×List Int×Bool
def tkM (s:List Int) (b:Bool):Rd Int:=if nx s<0 then(nx s,s,true)else(nx s,s.tail,b)
def isR (r:Int) (s:List Int):List Int:=if nx s=r then s.tail else s
def X0u (r:Int) (s:List Int) (b:Bool):List Int×Bool:=if b then(s,true)else(isR r s,!decide (nx s=r))
def X0E (s:List Int) (b:Bool):Rd Int:=if (tkM s b).1<48∨57<(tkM s b).1 then(0,(tkM s b).2.1,true)else((tkM s b).1 - 48,(tkM s b).2.1,(tkM s b).2.2)
def X22 (d:Int) (s:List Int) (b:Bool):Rd Int :=
 if nx s=44 then
  if nx s.tail=125 then(-1,s.tail,b)
  else((X0E s.tail b).1,(X0E s.tail b).2.1,(X0E s.tail b).2.2 || decide ((X0E s.tail b).1<d))
 else(d,s,b)
def X15 (s:List Int) (b:Bool):Rd (Int×Int×Bool) :=
 if nx s=42 then((0,-1,true),s.tail,b)
 else if nx s=43 then((1,-1,true),s.tail,b)
 else if nx s=63 then((0,1,true),s.tail,b)
 else if nx s=123 then
  (((X0E s.tail b).1,(X22 (X0E s.tail b).1 (X0E s.tail b).2.1 (X0E s.tail b).2.2).1,true),
   X0u 125 (X22 (X0E s.tail b).1 (X0E s.tail b).2.1 (X0E s.tail b).2.2).2.1 (X22 (X0E s.tail b).1 (X0E s.tail b).2.1 (X0E s.tail b).2.2).2.2)
 else((0,0,false),s,b)
def X0R (s:List Int) (b:Bool):Rd Int:=if (tkM s b).1=92 then tkM (tkM s b).2.1 (tkM s b).2.2 else tkM s b
def hiM (m:Rd Int):Rd Int :=
 if 2≤m.2.1.length∧m.2.1.getD 0 0=45∧¬ m.2.1.getD 1 0=93 then X0R (tkM m.2.1 m.2.2).2.1 (tkM m.2.1 m.2.2).2.2 else m
def X7g:Nat→List (Int×Int)→List Int→Bool→Rd (List (Int×Int))
 | 0,l,s,b=>(l,s,b)
 | f+1,l,s,b=>if b=false∧¬ nx s=93 then
   X7g f (l++[((X0R s b).1,(hiM (X0R s b)).1)]) (hiM (X0R s b)).2.1 ((hiM (X0R s b)).2.2 || decide ((hiM (X0R s b)).1<(X0R s b).1))
  else(l,s,b)
def X9P (s:List Int) (b:Bool):Rd Nd :=
 let l:=X7g ((isR 94 s).length+1) [] (isR 94 s) b
 (.mk 2 l.1 (decide (nx s=94)) [] 0 0,(X0u 93 l.2.1 l.2.2).1,(X0u 93 l.2.1 l.2.2).2 || decide (l.1.length=0))
def XDF (r:Int):Nd:=.mk 2 [(r,r)] false [] 0 0
def X8I:Nd:=.mk 0 [] false [] 0 0
def specB (r:Int):Bool:=decide (r∈[124,42,43,63,123,125,40,41,91,93,46,94,36,92])
def ofN (k:Int) (ks:List Nd):Nd:=if ks.length=1 then ks.headD X8I else .mk k [] false ks 0 0
abbrev Rdr:=List Int→Bool→Rd Nd
def X1b (alt:Rdr) (s:List Int) (b:Bool):Rd Nd :=
 let r:=(tkM s b).1
 let s1:=(tkM s b).2.1
 let b1:=(tkM s b).2.2
 if r=40 then((alt s1 b1).1,X0u 41 (alt s1 b1).2.1 (alt s1 b1).2.2)
 else if r=46 then(.mk 2 [] true [] 0 0,s1,b1)
 else if r=94 then(.mk 6 [] false [] 0 0,s1,b1)
 else if r=36 then(.mk 7 [] false [] 0 0,s1,b1)
 else if r=92 then(XDF (tkM s1 b1).1,(tkM s1 b1).2)
 else if r=91 then X9P s1 b1
 else(XDF r,s1,b1 || specB r)
def X2O (atom:Rdr) (s:List Int) (b:Bool):Rd Nd :=
 let n:=atom s b
 let q:=X15 n.2.1 n.2.2
 if q.1.2.2 then(.mk 5 [] false [n.1] q.1.1 q.1.2.1,q.2.1,q.2.2 || decide (nx s=94∨nx s=36))else(n.1,q.2)
def X6S (piece:Rdr):Nat→List Nd→List Int→Bool→Rd (List Nd)
 | 0,ks,s,b=>(ks,s,b)
 | f+1,ks,s,b=>if b=false∧0≤nx s∧¬ nx s=124∧¬ nx s=41 then X6S piece f (ks++[(piece s b).1]) (piece s b).2.1 (piece s b).2.2 else(ks,s,b)
def XCi (piece:Rdr) (s:List Int) (b:Bool):Rd Nd :=
 let l:=X6S piece s.length [] s b
 if l.1.length=0 then(X8I,l.2.1,true)else(ofN 3 l.1,l.2)
def X79 (row:Rdr):Nat→List Nd→List Int→Bool→Rd (List Nd)
 | 0,ks,s,b=>(ks,s,b)
 | f+1,ks,s,b=>if b=false∧nx s=124 then X79 row f (ks++[(row s.tail b).1]) (row s.tail b).2.1 (row s.tail b).2.2 else(ks,s,b)
def XFs (row:Rdr) (s:List Int) (b:Bool):Rd Nd :=
 let l:=X79 row s.length [(row s b).1] (row s b).2.1 (row s b).2.2
 (ofN 4 l.1,l.2)
def X3b:Nat→Rdr
 | 0=>fun s _=>(X8I,s,true)
 | f+1=>XFs (XCi (X2O (X1b (X3b f))))
def rowF (f:Nat):Rdr:=XCi (X2O (X1b (X3b f)))
def XBi (f:Nat):Rdr:=X2O (X1b (X3b f))
def XJo (f:Nat):Rdr:=X1b (X3b f)
def Shr (X:Rdr):Prop:=∀ s b,(X s b).2.1 <:+ s
theorem X6T (s:List Int):s.tail <:+ s:=List.tail_suffix s
theorem X4C {s:List Int} (h:0≤nx s):s.tail.length+1=s.length:=by cases s with
 | nil=>simp [nx]at h
 | cons r s=>simp
theorem X2f (s:List Int) (b:Bool):(tkM s b).2.1 <:+ s:=by
 unfold tkM;split
 · exact List.suffix_refl _
 · exact X6T s
theorem XEO (r:Int) (s:List Int):isR r s <:+ s:=by
 unfold isR;split
 · exact X6T s
 · exact List.suffix_refl _
theorem X5A (r:Int) (s:List Int) (b:Bool):(X0u r s b).1 <:+ s:=by
 unfold X0u;split
 · exact List.suffix_refl _
 · exact XEO r s
theorem XEP (s:List Int) (b:Bool):(X0E s b).2.1 <:+ s:=by
 unfold X0E;split<;>exact X2f s b
theorem XEQ (d:Int) (s:List Int) (b:Bool):(X22 d s b).2.1 <:+ s:=by
 unfold X22;split
 ·
  split
  · exact X6T s
  · exact List.IsSuffix.trans (XEP _ _) (X6T s)
 · exact List.suffix_refl _
theorem XER (s:List Int) (b:Bool):(X15 s b).2.1 <:+ s:=by
 unfold X15;split
 · exact X6T s
 ·
  split
  · exact X6T s
  ·
   split
   · exact X6T s
   ·
    split
    · exact List.IsSuffix.trans (X5A _ _ _) (List.IsSuffix.trans (XEQ _ _ _) (List.IsSuffix.trans (XEP _ _) (X6T s)))
    · exact List.suffix_refl _
theorem XES (s:List Int) (b:Bool):(X0R s b).2.1 <:+ s:=by
 unfold X0R;split
 · exact List.IsSuffix.trans (X2f _ _) (X2f s b)
 · exact X2f s b
theorem XJp (m:Rd Int):(hiM m).2.1 <:+ m.2.1:=by
 unfold hiM;split
 · exact List.IsSuffix.trans (XES _ _) (X2f _ _)
 · exact List.suffix_refl _
theorem XJq:∀ (f:Nat) (l:List (Int×Int)) (s:List Int) (b:Bool),(X7g f l s b).2.1 <:+ s:=by
 intro f
 induction f with
 | zero=>intro l s b;exact List.suffix_refl _
 | succ f ih =>
  intro l s b
  unfold X7g;split
  · exact List.IsSuffix.trans (ih _ _ _) (List.IsSuffix.trans (XJp _) (XES _ _))
  · exact List.suffix_refl _
theorem XAZ (s:List Int) (b:Bool):(X9P s b).2.1 <:+ s:=by
 unfold X9P;exact List.IsSuffix.trans (X5A _ _ _) (List.IsSuffix.trans (XJq _ _ _ _) (XEO _ _))
theorem X8J {alt:Rdr} (h:Shr alt):Shr (X1b alt):=by
 intro s b
 unfold X1b
 dsimp only
 split
 · exact List.IsSuffix.trans (X5A _ _ _) (List.IsSuffix.trans (h _ _) (X2f _ _))
 ·
  split
  · exact X2f _ _
  ·
   split
   · exact X2f _ _
   ·
    split
    · exact X2f _ _
    ·
     split
     · exact List.IsSuffix.trans (X2f _ _) (X2f _ _)
     ·
      split
      · exact List.IsSuffix.trans (XAZ _ _) (X2f _ _)
      · exact X2f _ _
theorem X8K {atom:Rdr} (h:Shr atom):Shr (X2O atom):=by
 intro s b
 unfold X2O
 dsimp only
 split<;>exact List.IsSuffix.trans (XER _ _) (h _ _)
theorem XJr {piece:Rdr} (h:Shr piece):∀ (f:Nat) (ks:List Nd) (s:List Int) (b:Bool),(X6S piece f ks s b).2.1 <:+ s:=by
 intro f
 induction f with
 | zero=>intro l s b;exact List.suffix_refl _
 | succ f ih =>
  intro l s b
  unfold X6S;split
  · exact List.IsSuffix.trans (ih _ _ _) (h _ _)
  · exact List.suffix_refl _
theorem XIJ {piece:Rdr} (h:Shr piece):Shr (XCi piece):=by
 intro s b
 unfold XCi
 dsimp only
 split<;>exact XJr h _ _ _ _
theorem XJs {row:Rdr} (h:Shr row):∀ (f:Nat) (ks:List Nd) (s:List Int) (b:Bool),(X79 row f ks s b).2.1 <:+ s:=by
 intro f
 induction f with
 | zero=>intro l s b;exact List.suffix_refl _
 | succ f ih =>
  intro l s b
  unfold X79;split
  · exact List.IsSuffix.trans (ih _ _ _) (List.IsSuffix.trans (h _ _) (X6T _))
  · exact List.suffix_refl _
theorem XLn {row:Rdr} (h:Shr row):Shr (XFs row):=by
 intro s b
 unfold XFs
 exact List.IsSuffix.trans (XJs h _ _ _ _) (h _ _)
theorem X5B:∀ f,Shr (X3b f)
 | 0=>fun s _=>List.suffix_refl _
 | f+1=>XLn (XIJ (X8K (X8J (X5B f))))
theorem X6A (f:Nat):Shr (rowF f):=XIJ (X8K (X8J (X5B f)))
theorem X6U (f:Nat):Shr (XBi f):=X8K (X8J (X5B f))
theorem XH8 (f:Nat):Shr (XJo f):=X8J (X5B f)
def XLo (X:Rdr):Prop:=∀ s b,0≤nx s→(X s b).2.1.length<s.length
theorem XJt {s:List Int} (h:0≤nx s) (b:Bool):(tkM s b).2.1.length<s.length:=by
 unfold tkM;rw [if_neg (by omega)]
 have:=X4C h;dsimp only;omega
theorem XJu {alt:Rdr} (h:Shr alt):XLo (X1b alt):=by
 intro s b hn
 have ht:=XJt hn b
 unfold X1b
 dsimp only
 split
 · exact Nat.lt_of_le_of_lt (List.IsSuffix.trans (X5A _ _ _) (h _ _)).length_le ht
 ·
  split
  · exact ht
  ·
   split
   · exact ht
   ·
    split
    · exact ht
    ·
     split
     · exact Nat.lt_of_le_of_lt (X2f _ _).length_le ht
     ·
      split
      · exact Nat.lt_of_le_of_lt (XAZ _ _).length_le ht
      · exact ht
theorem XH9 {atom:Rdr} (h:XLo atom):XLo (X2O atom):=by
 intro s b hn
 unfold X2O
 dsimp only
 split<;>exact Nat.lt_of_le_of_lt (XER _ _).length_le (h _ _ hn)
theorem XET (f:Nat):XLo (XBi f):=XH9 (XJu (X5B f))
theorem X7h {s:List Int} {b:Bool} (h:(tkM s b).2.2=false):0≤nx s∧b=false:=by
 unfold tkM at h
 split at h
 · cases h
 · exact⟨by omega,h⟩
theorem XAa {s:List Int} {b:Bool} (h:(X0R s b).2.2=false):(tkM s b).2.2=false:=by
 unfold X0R at h
 split at h
 · exact(X7h h).2
 · exact h
theorem XLp {s:List Int} {b:Bool} (h:(X0R s b).2.2=false):(X0R s b).2.1.length<s.length:=by
 have h1:=XJt (X7h (XAa h)).1 b
 unfold X0R;split
 · exact Nat.lt_of_le_of_lt (X2f _ _).length_le h1
 · exact h1
theorem XIK {m:Rd Int} (h:(hiM m).2.2=false):m.2.2=false:=by
 unfold hiM at h
 split at h
 · exact(X7h (X7h (XAa h)).2).2
 · exact h
end Go.Nfa
namespace Go.Vai
open Go.Nfa
noncomputable section
def okS (s:List Int):Prop:=∀ r∈s,X1z r=true
theorem okS.sfx {s t:List Int} (h:okS s) (k:t <:+ s):okS t:=fun r m=>h r (k.subset m)
theorem okS.tl {s:List Int} (h:okS s):okS s.tail:=h.sfx (X6T s)
theorem okS.nx {s:List Int} (h:okS s) (k:0≤nx s):X1z (nx s)=true:=by
 cases s with
 | nil=>simp [Nfa.nx]at k
 | cons r s=>exact h r (by simp [Nfa.nx])
theorem X5C {s:List Int} {b:Bool} (h:(tkM s b).2.2=false):0≤nx s∧b=false∧tkM s b=(nx s,s.tail,false)∧s.tail.length+1=s.length:=by
 obtain⟨h1,h2⟩:=X7h h
 exact⟨h1,h2,by subst h2;unfold tkM;rw [if_neg (by omega)],X4C h1⟩
theorem X4j {r:Int} {s:List Int} {b:Bool} (h:(X0u r s b).2=false):b=false∧nx s=r:=by
 unfold X0u at h
 cases b with
 | true=>simp at h
 | false=>exact⟨rfl,by simpa using h⟩
theorem X5s {s:List Int} {b:Bool} (h:(X0E s b).2.2=false):b=false∧0≤(X0E s b).1∧(X0E s b).1≤9:=by
 unfold X0E at h ⊢
 split at h
 · cases h
 ·
  rename_i hn
  have:=X5C h
  rw [if_neg hn]
  exact⟨this.2.1,by omega,by omega⟩
theorem XEU {d:Int} {s:List Int} {b:Bool} (hd:0≤d∧d≤9) (h:(X22 d s b).2.2=false):b=false∧(X22 d s b).1≤9∧((X22 d s b).1 = -1∨d≤(X22 d s b).1):=by
 unfold X22 at h ⊢
 split at h
 ·
  rename_i h1
  rw [if_pos h1]
  split at h
  ·
   rename_i h2
   rw [if_pos h2];exact⟨h,by omega,.inl rfl⟩
  ·
   rename_i h2
   rw [if_neg h2]
   simp only [Bool.or_eq_false_iff,decide_eq_false_iff_not]at h
   have:=X5s h.1
   exact⟨this.1,this.2.2,.inr (by have:=h.2;dsimp only;omega)⟩
 ·
  rename_i h1
  rw [if_neg h1]
  exact⟨h,hd.2,.inr (Int.le_refl _)⟩
theorem XBj {s:List Int} {b:Bool} (h:(X15 s b).2.2=false):b=false∧((X15 s b).1.2.2=true→(X15 s b).2.1.length+1≤s.length∧0≤(X15 s b).1.1∧(X15 s b).1.1≤9∧(X15 s b).1.2.1≤9∧((X15 s b).1.2.1 = -1∨(X15 s b).1.1≤(X15 s b).1.2.1)):=by
 unfold X15 at h ⊢
 split at h
 · rename_i h1;rw [if_pos h1];exact⟨h,fun _=>⟨by have:=X4C (s:=s) (by omega);dsimp only;omega,(by decide:(0:Int)≤(0:Int)),(by decide:(0:Int)≤(9:Int)),(by decide:(-1:Int)≤9),.inl rfl⟩⟩
 ·
  rename_i h1;rw [if_neg h1]
  split at h
  · rename_i h1;rw [if_pos h1];exact⟨h,fun _=>⟨by have:=X4C (s:=s) (by omega);dsimp only;omega,(by decide:(0:Int)≤(1:Int)),(by decide:(1:Int)≤(9:Int)),(by decide:(-1:Int)≤9),.inl rfl⟩⟩
  ·
   rename_i h1;rw [if_neg h1]
   split at h
   · rename_i h1;rw [if_pos h1];exact⟨h,fun _=>⟨by have:=X4C (s:=s) (by omega);dsimp only;omega,(by decide:(0:Int)≤0),(by decide:(0:Int)≤9),(by decide:(1:Int)≤9),.inr (by decide:(0:Int)≤1)⟩⟩
   ·
    rename_i h1;rw [if_neg h1]
    split at h
    ·
     rename_i h1;rw [if_pos h1]
     have q1:=X4j h
     have q0:=X5s (s:=s.tail) (b:=b)
     have q2:(X0E s.tail b).2.2=false:=by
      have:=q1.1
      unfold X22 at this
      split at this
      ·
       split at this
       · exact this
       · simp only [Bool.or_eq_false_iff]at this;exact(X5s this.1).1
      · exact this
     have q3:=X5s q2
     have q4:=XEU q3.2 q1.1
     refine⟨q3.1,fun _=>⟨?_,q3.2.1,q3.2.2,q4.2⟩⟩
     have l1:=(X5A 125 (X22 (X0E s.tail b).1 (X0E s.tail b).2.1 (X0E s.tail b).2.2).2.1 (X22 (X0E s.tail b).1 (X0E s.tail b).2.1 (X0E s.tail b).2.2).2.2).length_le
     have l2:=(XEQ (X0E s.tail b).1 (X0E s.tail b).2.1 (X0E s.tail b).2.2).length_le
     have l3:=(XEP s.tail b).length_le
     have:=X4C (s:=s) (by omega)
     dsimp only;omega
    · rename_i h1;rw [if_neg h1];exact⟨h,fun e=>by cases e⟩
theorem XBk {s:List Int} {b:Bool} (hs:okS s) (h:(X0R s b).2.2=false):b=false∧X1z (X0R s b).1=true:=by
 have h1:=X5C (XAa h)
 refine⟨h1.2.1,?_⟩
 unfold X0R at h ⊢
 split at h
 ·
  rename_i e
  rw [if_pos e]
  have h2:=X5C h
  rw [h2.2.2.1]
  exact(hs.sfx (X2f s b)).nx h2.1
 ·
  rename_i e
  rw [if_neg e,h1.2.2.1]
  exact hs.nx h1.1
theorem XJv {m:Rd Int} (hs:okS m.2.1) (hm:X1z m.1=true) (h:(hiM m).2.2=false):X1z (hiM m).1=true:=by
 unfold hiM at h ⊢
 split at h
 ·
  rename_i e
  rw [if_pos e]
  exact(XBk (hs.sfx (X2f _ _)) h).2
 ·
  rename_i e
  rw [if_neg e];exact hm
theorem XBl:∀ {f:Nat} {l:List (Int×Int)} {s:List Int} {b:Bool},(X7g f l s b).2.2=false→b=false:=by
 intro f
 cases f with
 | zero=>intro l s b h;exact h
 | succ f =>
  intro l s b h
  unfold X7g at h
  split at h
  · rename_i e;exact e.1
  · exact h
theorem XEV:∀ {f:Nat} {l:List (Int×Int)} {s:List Int} {b:Bool},okS s→(X7g f l s b).2.2=false→l.all X10=true→(X7g f l s b).1.all X10=true:=by
 intro f
 induction f with
 | zero=>intro l s b _ _ h;exact h
 | succ f ih =>
  intro l s b hs h hl
  unfold X7g at h ⊢
  split at h
  ·
   rename_i e
   rw [if_pos e]
   have hb:=XBl h
   simp only [Bool.or_eq_false_iff,decide_eq_false_iff_not]at hb
   have hm:=XBk hs (XIK hb.1)
   have hs1:=hs.sfx (XES s b)
   refine ih (hs1.sfx (XJp _)) h ?_
   rw [List.all_append,hl,Bool.true_and,List.all_cons,List.all_nil,Bool.and_true]
   simp only [X10,hm.2,XJv hs1 hm.2 hb.1,Bool.true_and,decide_eq_true_eq]
   omega
  ·
   rename_i e
   rw [if_neg e];exact hl
theorem XAb {l:List (Int×Int)} {no:Bool} (h:l.all X10=true) (h0:l.length≠0∨no=true):XBR (.mk 2 l no [] 0 0)=true:=by
 have:0<l.length∨no=true:=h0.imp (fun k=>by omega) id
 simp only [XBR,X3C,X18,X2t,X4Y,h,Bool.true_and,Bool.and_true,if_pos,decide_true,Bool.true_or,List.length_nil,Bool.or_true,Int.natCast_pos]
 rcases this with k | k<;>simp [k]
theorem X3u (k:Int) (l:List (Int×Int)) (no:Bool) (mn mx:Int):size (.mk k l no [] mn mx)=1:=by simp [size,X1f]
theorem XEW {r:Int} (h:X1z r=true):XBR (XDF r)=true:=XAb (by simp [X10,h]) (.inl (by simp))
def XEX (X:Rdr):Prop:=∀ s b,okS s→(X s b).2.2=false→b=false∧XBR (X s b).1=true∧size (X s b).1+2*(X s b).2.1.length+1≤2*s.length
theorem X9Q {s:List Int} {b:Bool} (hs:okS s) (h:(X9P s b).2.2=false):b=false∧XBR (X9P s b).1=true∧size (X9P s b).1=1:=by
 unfold X9P at h ⊢
 dsimp only at h ⊢
 simp only [Bool.or_eq_false_iff,decide_eq_false_iff_not]at h
 have h1:=(X4j h.1).1
 have h2:=XBl h1
 exact⟨h2,XAb (XEV (hs.sfx (XEO _ _)) h1 rfl) (.inl h.2),X3u _ _ _ _ _⟩
theorem XEY {alt:Rdr} (hl:Shr alt) (h:XEX alt):XEX (X1b alt):=by
 intro s b hs hb
 have key:(tkM s b).2.2=false:=by
  unfold X1b at hb
  dsimp only at hb
  split at hb
  · exact(h _ _ (hs.sfx (X2f s b)) (X4j hb).1).1
  ·
   split at hb
   · exact hb
   ·
    split at hb
    · exact hb
    ·
     split at hb
     · exact hb
     ·
      split at hb
      · exact(X7h hb).2
      ·
       split at hb
       · exact(X9Q (hs.sfx (X2f s b)) hb).1
       · simp only [Bool.or_eq_false_iff]at hb;exact hb.1
 obtain⟨t1,t2,t3,t4⟩:=X5C key
 refine⟨t2,?_⟩
 unfold X1b at hb ⊢
 rw [t3]at hb ⊢
 dsimp only at hb ⊢
 have hs1:=hs.tl
 split at hb
 ·
  rename_i e
  rw [if_pos e]
  have m1:=X4j hb
  have g:=h _ _ hs1 m1.1
  have ml:=(X5A 41 (alt s.tail false).2.1 (alt s.tail false).2.2).length_le
  exact⟨g.2.1,by dsimp only;omega⟩
 ·
  rename_i e
  rw [if_neg e]
  split at hb
  ·
   rename_i e
   rw [if_pos e]
   exact⟨XAb rfl (.inr rfl),by rw [X3u];dsimp only;omega⟩
  ·
   rename_i e
   rw [if_neg e]
   split at hb
   ·
    rename_i e
    rw [if_pos e]
    exact⟨(by decide:XBR (.mk 6 [] false [] 0 0)=true),by rw [X3u];dsimp only;omega⟩
   ·
    rename_i e
    rw [if_neg e]
    split at hb
    ·
     rename_i e
     rw [if_pos e]
     exact⟨(by decide:XBR (.mk 7 [] false [] 0 0)=true),by rw [X3u];dsimp only;omega⟩
    ·
     rename_i e
     rw [if_neg e]
     split at hb
     ·
      rename_i e
      rw [if_pos e]
      obtain⟨u1,u2,u3,u4⟩:=X5C hb
      rw [u3]
      exact⟨XEW (hs1.nx u1),by rw [XDF,X3u];dsimp only;omega⟩
     ·
      rename_i e
      rw [if_neg e]
      split at hb
      ·
       rename_i e
       rw [if_pos e]
       have g:=X9Q hs1 hb
       have gl:=(XAZ s.tail false).length_le
       exact⟨g.2.1,by rw [g.2.2];omega⟩
      ·
       rename_i e
       rw [if_neg e]
       exact⟨XEW (hs.nx t1),by rw [XDF,X3u];dsimp only;omega⟩
theorem XCj {atom:Rdr} (hl:Shr atom) (h:XEX atom):XEX (X2O atom):=by
 intro s b hs hb
 unfold X2O at hb ⊢
 dsimp only at hb ⊢
 split at hb
 ·
  rename_i e
  rw [if_pos e]
  simp only [Bool.or_eq_false_iff]at hb
  have r:=XBj hb.1
  have g:=h s b hs r.1
  have r2:=r.2 e
  refine⟨g.1,?_,?_⟩
  ·
   simp only [XBR,X3C,g.2.1,X18,X2t,X4Y,Bool.true_and,Bool.and_true,List.length_nil,List.length_cons,decide_true,Bool.true_or,Bool.or_true,Int.reduceEq,reduceIte,or_self,decide_eq_true r2.2.1,decide_eq_true r2.2.2.1,decide_eq_true r2.2.2.2.1]
   rcases r2.2.2.2.2 with k | k<;>simp [k]
  · rw [size];simp only [X1f];omega
 ·
  rename_i e
  rw [if_neg e]
  have r:=XBj hb
  have g:=h s b hs r.1
  have l:=(XER (atom s b).2.1 (atom s b).2.2).length_le
  exact⟨g.1,g.2.1,by dsimp only;omega⟩
theorem X5D:∀ {ks:List Nd} {n:Nd},X3C ks=true→XBR n=true→X3C (ks++[n])=true
 | [],n,_,h=>by simp [X3C,h]
 | k::ks,n,h,hn=>by
  rw [X3C,Bool.and_eq_true]at h
  rw [List.cons_append,X3C,h.1,X5D h.2 hn];rfl
theorem X5E:∀ (ks:List Nd) (n:Nd),X1f (ks++[n])=X1f ks+size n
 | [],n=>by simp [X1f]
 | k::ks,n=>by rw [List.cons_append,X1f,X5E ks n,X1f];omega
theorem XEZ {piece:Rdr} (hl:Shr piece) (h:XEX piece):∀ (f:Nat) (ks:List Nd) (s:List Int) (b:Bool),okS s→(X6S piece f ks s b).2.2=false→b=false∧(X3C ks=true→X3C (X6S piece f ks s b).1=true) ∧
  X1f (X6S piece f ks s b).1+2*(X6S piece f ks s b).2.1.length+(X6S piece f ks s b).1.length≤X1f ks+2*s.length+ks.length:=by
 intro f
 induction f with
 | zero=>intro ks s b _ hb;exact⟨hb,fun h=>h,Nat.le_refl _⟩
 | succ f ih =>
  intro ks s b hs hb
  unfold X6S at hb ⊢
  split at hb
  ·
   rename_i e
   rw [if_pos e]
   obtain⟨i1,i2,i3⟩:=ih _ _ _ (hs.sfx (hl s b)) hb
   have g:=h s b hs i1
   refine⟨e.1,fun k=>i2 (X5D k g.2.1),?_⟩
   rw [X5E,List.length_append,List.length_singleton]at i3
   omega
  ·
   rename_i e
   rw [if_neg e];exact⟨hb,fun h=>h,Nat.le_refl _⟩
theorem XEa {k:Int} {ks:List Nd} (hk:k=3∨k=4) (h0:¬ ks.length=0) (h:X3C ks=true):XBR (ofN k ks)=true∧size (ofN k ks)+1≤X1f ks+ks.length:=by
 unfold ofN
 split
 ·
  rename_i e
  cases ks with
  | nil=>simp at e
  | cons n ns =>
   have:ns=[]:=List.length_eq_zero_iff.1 (by simpa using e)
   subst this
   simp only [X3C,Bool.and_true]at h
   exact⟨h,by simp [X1f]⟩
 ·
  have h2:(2:Int)≤(ks.length:Nat):=by omega
  refine⟨?_,by rw [size];omega⟩
  rcases hk with rfl | rfl<;>simp only [XBR,h,X18,X2t,X4Y,Bool.true_and,Bool.and_true,List.length_nil,decide_true,Bool.true_or,Bool.or_true,Int.reduceEq,reduceIte,or_self,or_true,true_or,decide_eq_true h2,Bool.or_self,Bool.not_false,Int.natCast_zero,Int.ofNat_zero]<;>simp
theorem XHA {piece:Rdr} (hl:Shr piece) (h:XEX piece):XEX (XCi piece):=by
 intro s b hs hb
 unfold XCi at hb ⊢
 dsimp only at hb ⊢
 split at hb
 · cases hb
 ·
  rename_i e
  rw [if_neg e]
  have g:=XEZ hl h _ _ _ _ hs hb
  have o:=XEa (.inl rfl) e (g.2.1 rfl)
  refine⟨g.1,o.1,?_⟩
  have:=g.2.2
  simp only [X1f,List.length_nil]at this
  have:=o.2
  dsimp only;omega
theorem XEb {row:Rdr} (hl:Shr row) (h:XEX row):∀ (f:Nat) (ks:List Nd) (s:List Int) (b:Bool),okS s→(X79 row f ks s b).2.2=false→b=false∧(X3C ks=true→X3C (X79 row f ks s b).1=true) ∧
  X1f (X79 row f ks s b).1+2*(X79 row f ks s b).2.1.length+(X79 row f ks s b).1.length≤X1f ks+2*s.length+ks.length∧ks.length≤(X79 row f ks s b).1.length:=by
 intro f
 induction f with
 | zero=>intro ks s b _ hb;exact⟨hb,fun h=>h,Nat.le_refl _,Nat.le_refl _⟩
 | succ f ih =>
  intro ks s b hs hb
  unfold X79 at hb ⊢
  split at hb
  ·
   rename_i e
   rw [if_pos e]
   obtain⟨i1,i2,i3,i4⟩:=ih _ _ _ (hs.tl.sfx (hl s.tail b)) hb
   have g:=h s.tail b hs.tl i1
   have:=X4C (s:=s) (by omega)
   refine⟨e.1,fun k=>i2 (X5D k g.2.1),?_,?_⟩
   ·
    rw [X5E,List.length_append,List.length_singleton]at i3
    omega
   · rw [List.length_append,List.length_singleton]at i4;omega
  ·
   rename_i e
   rw [if_neg e];exact⟨hb,fun h=>h,Nat.le_refl _,Nat.le_refl _⟩
theorem XHB {row:Rdr} (hl:Shr row) (h:XEX row):XEX (XFs row):=by
 intro s b hs hb
 unfold XFs at hb ⊢
 dsimp only at hb ⊢
 have g:=XEb hl h _ _ _ _ (hs.sfx (hl s b)) hb
 have r:=h s b hs g.1
 have o:=XEa (k:=4) (.inr rfl) (by have:=g.2.2.2;simp only [List.length_singleton]at this;omega) (g.2.1 (by simp [X3C,r.2.1]))
 refine⟨r.1,o.1,?_⟩
 have:=g.2.2.1
 simp only [X1f,List.length_singleton]at this
 have:=o.2
 omega
theorem X9R:∀ f,XEX (X3b f)
 | 0=>fun s b _ h=>by cases h
 | f+1=>XHB (X6A f) (XHA (X6U f) (XCj (XH8 f) (XEY (X5B f) (X9R f))))
end
end Go.Vai

/-
  What is proved here: signs written as bytes behind a \ each are read as those signs; as a pattern they are a row of signs, which ends where the row ends. No conditions. (No program in sight.)
-/
import Derived.Test.YtiebldaihnbkmaaGreatDoorPureAlt
import Derived.Lib.ValidLaws
set_option linter.unusedVariables false
set_option linter.unusedSimpArgs false
namespace Go.Vai
open Go.Nfa Go.Utf
def X4V (n:Nat):List Nat :=
 if n<128 then[n]else if n<2048 then[192+n / 64,128+n % 64]
 else if n<65536 then[224+n / 4096,128+n / 64 % 64,128+n % 64]
 else[240+n / 262144,128+n / 4096 % 64,128+n / 64 % 64,128+n % 64]
def XBA (r:Int):List Nat:=X4V r.toNat
theorem X5X {r:Int} (h:X0a r):∃ n:Nat,r=(n:Int)∧(n<55296∨(57343<n∧n≤1114111)):=by
 refine⟨r.toNat,?_⟩
 unfold X0a at h
 omega
theorem XCN {n:Nat} (h:n<55296∨(57343<n∧n≤1114111)) {q:Ust} (hq:q.w=0):(X2o q (X4V n)).1=[(n:Int)]∧(X2o q (X4V n)).2.w=0:=by
 unfold X4V
 split
 ·
  rename_i h1
  simp only [X2o,X3E,hq,if_pos,X1x,if_pos h1]
  simp
 ·
  split
  ·
   have a1:¬ 192+n / 64<128:=by omega
   have a2:194≤192+n / 64∧192+n / 64≤223:=by omega
   have a3:¬ (128+n % 64<128∨191<128+n % 64):=by omega
   have a4:(192+n / 64) % 32*64+(128+n % 64) % 64=n:=by omega
   simp only [X2o,X3E,hq,if_pos,X1x,if_neg a1,if_pos a2,if_neg (show ¬ (1:Nat)=0 by decide),if_neg a3,if_neg (show ¬ (1:Nat)<1 by decide),a4]
   simp
  ·
   split
   ·
    have a1:¬ 224+n / 4096<128:=by omega
    have a2:¬ (194≤224+n / 4096∧224+n / 4096≤223):=by omega
    have a3:224≤224+n / 4096∧224+n / 4096≤239:=by omega
    have a4:¬ (128+n / 64 % 64<(if 224+n / 4096=224 then 160 else 128)∨(if 224+n / 4096=237 then 159 else 191)<128+n / 64 % 64):=by split<;>split<;>omega
    have a5:¬ (128+n % 64<128∨191<128+n % 64):=by omega
    have a6:((224+n / 4096) % 16*64+(128+n / 64 % 64) % 64)*64+(128+n % 64) % 64=n:=by omega
    simp only [X2o,X3E,hq,if_pos,X1x,if_neg a1,if_neg a2,if_pos a3,if_neg (show ¬ (1:Nat)=0 by decide),if_neg (show ¬ (1+1:Nat)=0 by decide),if_neg a4,if_neg a5,if_pos (show(1:Nat)<2 by decide),if_neg (show ¬ (1:Nat)<2 - 1 by decide),a6]
    simp
   ·
    have a1:¬ 240+n / 262144<128:=by omega
    have a2:¬ (194≤240+n / 262144∧240+n / 262144≤223):=by omega
    have a3:¬ (224≤240+n / 262144∧240+n / 262144≤239):=by omega
    have a7:240≤240+n / 262144∧240+n / 262144≤244:=by omega
    have a4:¬ (128+n / 4096 % 64<(if 240+n / 262144=240 then 144 else 128)∨(if 240+n / 262144=244 then 143 else 191)<128+n / 4096 % 64):=by split<;>split<;>omega
    have a8:¬ (128+n / 64 % 64<128∨191<128+n / 64 % 64):=by omega
    have a5:¬ (128+n % 64<128∨191<128+n % 64):=by omega
    have a6:(((240+n / 262144) % 8*64+(128+n / 4096 % 64) % 64)*64+(128+n / 64 % 64) % 64)*64+(128+n % 64) % 64=n:=by omega
    simp only [X2o,X3E,hq,if_pos,X1x,if_neg a1,if_neg a2,if_neg a3,if_pos a7,if_neg (show ¬ (1:Nat)=0 by decide),if_neg (show ¬ (1+1:Nat)=0 by decide),if_neg (show ¬ (1+1+1:Nat)=0 by decide),if_neg a4,if_neg a5,if_neg a8,if_pos (show(1:Nat)<3 by decide),if_pos (show(1:Nat)<3 - 1 by decide),if_neg (show ¬ (1:Nat)<3 - 1 - 1 by decide),a6]
    simp
theorem XAH (q:Ust) (xs ys:List Nat):X2o q (xs++ys)=((X2o q xs).1++(X2o (X2o q xs).2 ys).1,(X2o (X2o q xs).2 ys).2):=by
 induction xs generalizing q with
 | nil=>simp [X2o]
 | cons x xs ih=>simp only [List.cons_append,X2o,ih,List.append_assoc]
def reB (a:List Int):List Nat:=a.flatMap fun r=>92::XBA r
def reS (a:List Int):List Int:=a.flatMap fun r=>[92,r]
theorem XIe:∀ (a:List Int),(∀ r∈a,X0a r)→∀ q:Ust,q.w=0→(X2o q (reB a)).1=reS a∧(X2o q (reB a)).2.w=0:=by
 intro a
 induction a with
 | nil=>intro _ q hq;exact⟨rfl,hq⟩
 | cons r a ih =>
  intro ha q hq
  obtain⟨n,e,hn⟩:=X5X (ha r (by simp))
  have e1:reB (r::a)=[92]++(X4V n++reB a):=by
   simp only [reB,List.flatMap_cons,XBA,e,Int.toNat_natCast,List.cons_append,List.nil_append]
  have e2:reS (r::a)=[92]++([r]++reS a):=by simp only [reS,List.flatMap_cons,List.cons_append,List.nil_append]
  have p:(X2o q [92]).1=[92]∧(X2o q [92]).2.w=0:=by
   have:=XCN (n:=92) (.inl (by decide)) hq
   exact this
  have p2:=XCN hn p.2
  have p3:=ih (fun x hx=>ha x (by simp [hx])) _ p2.2
  rw [e1,e2,XAH,XAH]
  refine⟨?_,p3.2⟩
  dsimp only
  rw [p.1,p2.1,p3.1,e]
theorem XIf {a:List Int} (ha:∀ r∈a,X0a r):X3e (reB a)=reS a:=by
 have h:=XIe a ha ⟨0,0,0,0,0⟩ rfl
 unfold X3e X6s
 rw [h.1,if_pos h.2,List.append_nil]
theorem XGn {n:Nat} (h:n<55296∨(57343<n∧n≤1114111)) (h1:128≤n) (t:List Nat) (ht:∀ b∈t,b<256) :
  Lib.decodeL ((X4V n++t).map UInt8.ofNat)=(n,(X4V n).length):=by
 have hb:∀ b∈X4V n++t,b<256:=by
  intro b hb
  rcases List.mem_append.1 hb with h2 | h2
  ·
   unfold X4V at h2
   split at h2
   · simp at h2;omega
   ·
    split at h2
    · simp at h2;omega
    ·
     split at h2
     · simp at h2;omega
     · simp at h2;omega
  · exact ht b h2
 have hg:∀ (l:List Nat),(∀ b∈l,b<256)→∀ i,((⟨(l.map UInt8.ofNat).toArray⟩:ByteArray).get! i).toNat=l.getD i 0:=by
  intro l hl i
  show((l.map UInt8.ofNat).toArray[i]!).toNat=_
  rw [List.getElem!_toArray,List.getElem!_eq_getElem?_getD,List.getElem?_map,List.getD_eq_getElem?_getD]
  cases e:l[i]? with
  | none=>rfl
  | some x =>
   have:=hl x (List.mem_of_getElem? e)
   simp only [Option.map_some,Option.getD_some,UInt8.toNat_ofNat']
   omega
 unfold Lib.decodeL
 rw [Lib.decode_at]
 simp only [hg _ hb]
 have hs:(⟨((X4V n++t).map UInt8.ofNat).toArray⟩:ByteArray).size=(X4V n).length+t.length:=by
  show((X4V n++t).map UInt8.ofNat).toArray.size=_
  simp
 rw [hs]
 unfold X4V
 rw [if_neg (by omega)]
 split
 ·
  simp only [List.cons_append,List.nil_append,List.getD_cons_zero,List.getD_cons_succ,Nat.zero_add,List.length_cons,List.length_nil]
  unfold Lib.decodeN
  repeat' split
  all_goals first | (exfalso;omega) | (apply Prod.ext<;>simp only<;>omega)
 ·
  split
  ·
   simp only [List.cons_append,List.nil_append,List.getD_cons_zero,List.getD_cons_succ,Nat.zero_add,List.length_cons,List.length_nil]
   unfold Lib.decodeN
   repeat' split
   all_goals first | (exfalso;omega) | (apply Prod.ext<;>simp only<;>omega)
  ·
   simp only [List.cons_append,List.nil_append,List.getD_cons_zero,List.getD_cons_succ,Nat.zero_add,List.length_cons,List.length_nil]
   unfold Lib.decodeN
   repeat' split
   all_goals first | (exfalso;omega) | (apply Prod.ext<;>simp only<;>omega)
theorem XCO (n:Nat) (h:n<55296∨(57343<n∧n≤1114111)):∀ b∈X4V n,b<256:=by
 intro b h2
 unfold X4V at h2
 split at h2
 · simp at h2;omega
 ·
  split at h2
  · simp at h2;omega
  ·
   split at h2
   · simp at h2;omega
   · simp at h2;omega
theorem XIg:∀ (a:List Int),(∀ r∈a,X0a r)→∀ b∈reB a,b<256:=by
 intro a ha b hb
 obtain⟨r,hr,hb⟩:=List.mem_flatMap.1 hb
 obtain⟨n,e,hn⟩:=X5X (ha r hr)
 subst e
 rcases List.mem_cons.1 hb with h | h
 · omega
 · exact XCO n hn b h
theorem XCP {n:Nat} (h:n<55296∨(57343<n∧n≤1114111)) (t:List Nat) (ht:∀ b∈t,b<256) :
  Lib.validD ((X4V n++t).map UInt8.ofNat)=Lib.validD (t.map UInt8.ofNat):=by
 rcases Nat.lt_or_ge n 128 with h1 | h1
 ·
  rw [show X4V n=[n]by unfold X4V;rw [if_pos h1]]
  exact Lib.validD_cons _ _ (by simp only [UInt8.toNat_ofNat'];omega)
 ·
  have hd:=XGn h h1 t ht
  have hl:2≤(X4V n).length:=by unfold X4V;rw [if_neg (by omega)];split<;>(try split)<;>simp
  rw [Lib.validD_step _ (by
   intro e
   have:=congrArg List.length e
   simp only [List.length_map,List.length_append,List.length_nil]at this
   omega),hd]
  dsimp only
  rw [if_neg (by omega),List.map_append,List.drop_left' (by rw [List.length_map])]
theorem XEb:∀ (a:List Int),(∀ r∈a,X0a r)→Lib.validD ((reB a).map UInt8.ofNat)=true:=by
 intro a
 induction a with
 | nil=>intro _;rfl
 | cons r a ih =>
  intro ha
  obtain⟨n,e,hn⟩:=X5X (ha r (by simp))
  have e1:reB (r::a)=92::(X4V n++reB a):=by
   simp only [reB,List.flatMap_cons,XBA,e,Int.toNat_natCast,List.cons_append]
  have ha2:∀ x∈a,X0a x:=fun x hx=>ha x (by simp [hx])
  rw [e1,List.map_cons,Lib.validD_cons _ _ (by decide),XCP hn _ (XIg a ha2),ih ha2]
theorem XBB (s:ByteArray):(X0D s).map UInt8.ofNat=s.data.toList:=by
 unfold X0D
 refine List.ext_getElem? fun i=>?_
 rw [List.map_map,List.getElem?_map]
 rcases Nat.lt_or_ge i s.size with h | h
 ·
  rw [List.getElem?_range h]
  have hi:i<s.data.toList.length:=by simpa using h
  rw [List.getElem?_eq_getElem hi]
  simp only [Option.map_some,Function.comp,sB]
  rw [dif_pos h]
  have:s[i]=s.data.toList[i]:=by rw [Array.getElem_toList];rfl
  rw [this]
  simp
 · rw [List.getElem?_eq_none (by simpa using h),List.getElem?_eq_none (by simpa using h)];rfl
theorem XCQ (alt:Rdr) (r:Int) (s:List Int) (hr:0≤r) (hs:s=[]∨∃ t,s=92::t):X1T (X1A alt) (92::r::s) false=(X34 r,s,false):=by
 have hat:X1A alt (92::r::s) false=(X34 r,s,false):=by
  have h1:tkM (92::r::s) false=(92,r::s,false):=rfl
  have h2:tkM (r::s) false=(r,s,false):=by
   unfold tkM
   rw [if_neg (show ¬ nx (r::s)<0 by show ¬ r<0;omega)];rfl
  unfold X1A
  simp only [h1,h2]
  rfl
 have hrep:X0t s false=((0,0,false),s,false):=by
  rcases hs with rfl | ⟨t,rfl⟩<;>rfl
 unfold X1T
 simp only [hat,hrep]
 rfl
theorem X7L (r:Int) (a:List Int):reS (r::a)=92::r::reS a:=by simp only [reS,List.flatMap_cons,List.cons_append,List.nil_append]
theorem XIh (a:List Int):reS a=[]∨∃ t,reS a=92::t:=by
 cases a with
 | nil=>exact .inl rfl
 | cons r a=>exact .inr ⟨_,X7L r a⟩
theorem XIi (alt:Rdr):∀ (a:List Int) (ks:List Nd) (f:Nat),(∀ r∈a,0≤r)→a.length≤f→X4z (X1T (X1A alt)) f ks (reS a) false=(ks++a.map X34,[],false):=by
 intro a
 induction a with
 | nil =>
  intro ks f _ _
  rw [List.map_nil,List.append_nil]
  cases f with
  | zero=>rfl
  | succ f=>exact if_neg (fun h=>absurd h.2.1 (by decide))
 | cons r a ih =>
  intro ks f ha hf
  cases f with
  | zero=>simp at hf
  | succ f =>
   rw [X7L]
   have hp:=XCQ alt r (reS a) (ha r (by simp)) (XIh a)
   rw [X4z,if_pos ⟨rfl,by show(0:Int)≤92;decide,by show ¬ (92:Int)=124;decide,by show ¬ (92:Int)=41;decide⟩,hp]
   dsimp only
   rw [ih _ f (fun x hx=>ha x (by simp [hx])) (by simp at hf;omega),List.map_cons,List.append_assoc];rfl
theorem XGo (f:Nat) {a:List Int} (ha:∀ r∈a,0≤r) (h0:a≠[]):X2l (f+1) (reS a) false=(ofN 3 (a.map X34),[],false):=by
 have hlen:a.length≤(reS a).length:=by
  clear h0 ha
  induction a with
  | nil=>simp
  | cons r a ih=>rw [X7L];simp only [List.length_cons];omega
 have hrow:X94 (X1T (X1A (X2l f))) (reS a) false=(ofN 3 (a.map X34),[],false):=by
  unfold X94
  simp only [XIi (X2l f) a [] _ ha hlen,List.nil_append,List.length_map]
  rw [if_neg (by cases a with | nil=>exact absurd rfl h0 | cons=>simp)]
 show XBj _ _ _=_
 unfold XBj
 simp only [hrow]
 have:X5Y (X94 (X1T (X1A (X2l f)))) (reS a).length [ofN 3 (a.map X34)] [] false=([ofN 3 (a.map X34)],[],false):=by
  cases (reS a).length with
  | zero=>rfl
  | succ n=>exact if_neg (fun h=>absurd h.2 (by decide))
 rw [this]
 rfl
theorem XAI {s:ByteArray} {a:List Int} (hs:X0D s=reB a) (ha:∀ r∈a,X0a r) (hb:∀ r∈a,¬ r=65533) :
  X2M s=if 60<s.size∨a=[]then none else some (ofN 3 (a.map X34)):=by
 have hv:Lib.validD s.data.toList=true:=by rw [← XBB,hs];exact XEb a ha
 have hal:X3e (X0D s)=reS a:=by rw [hs];exact XIf ha
 have h65:¬ (65533:Int)∈reS a:=by
  intro h
  obtain⟨r,hr,h⟩:=List.mem_flatMap.1 h
  rcases List.mem_cons.1 h with h | h
  · cases h
  · rw [List.mem_singleton]at h;exact hb r hr h.symm
 have h0:∀ r∈a,0≤r:=fun r hr=>by have:=ha r hr;unfold X0a at this;omega
 unfold X2M
 rw [hal,hv]
 by_cases h60:60<s.size
 · rw [if_pos (.inl h60),if_pos (.inl h60)]
 ·
  rw [if_neg (by rintro(h | h | h)<;>first | exact h60 h | cases h | exact h65 h)]
  by_cases hn:a=[]
  ·
   subst hn
   rw [if_pos (show 60<s.size∨([]:List Int)=[]from .inr rfl),if_pos (.inl rfl)]
  ·
   rw [if_neg (show ¬ (60<s.size∨a=[])from fun h=>h.elim h60 hn),XGo _ h0 hn]
   rfl
theorem XIj (l:List Int) (r:Int) (i j:Nat):M K14 l (X34 r) i j↔l[i]?=some r∧j=i+1:=by
 unfold X34
 rw [X6g]
 constructor
 ·
  rintro(⟨_,h,x,hx,h2⟩ | h | h | h | h | h)
  ·
   simp only [X2k,List.any_cons,List.any_nil,Bool.or_false,Bool.not_false]at h2
   split at h2
   ·
    rename_i h3
    simp only [Bool.and_eq_true,decide_eq_true_eq]at h3
    rw [hx,show x=r by omega];exact⟨rfl,h⟩
   · cases h2
  all_goals exact absurd h.1 (by decide)
 ·
  rintro⟨h,rfl⟩
  exact .inl ⟨rfl,rfl,r,h,by simp [X2k]⟩
theorem XFh (l:List Int):∀ (a:List Int) (i j:Nat),X89 K14 l (a.map X34) i j↔(∀ k:Nat,k<a.length→l[i+k]?=a[k]?)∧j=i+a.length:=by
  intro a
  induction a with
  | nil => intro i j; rw [List.map_nil, X89]; constructor
           · intro h;exact⟨fun k hk=>absurd hk (by simp),by simp [h]⟩
           · rintro⟨_,h⟩;simpa using h.symm
  | cons r a ih =>
    intro i j
    rw [List.map_cons,X89]
    constructor
    · rintro⟨m,h1,h2⟩
      obtain⟨e1,rfl⟩:=(XIj l r i m).1 h1
      obtain⟨e2,e3⟩:=(ih (i+1) j).1 h2
      refine⟨fun k hk=>?_,by simp only [List.length_cons];omega⟩
      cases k with
      | zero=>rw [Nat.add_zero,e1];rfl
      | succ k=>rw [show i+(k+1)=i+1+k by omega,e2 k (by simpa using hk)];rfl
    · rintro⟨h1,h2⟩
      refine⟨i+1,(XIj l r i _).2 ⟨by have:=h1 0 (by simp);simpa using this,rfl⟩,(ih (i+1) j).2 ⟨fun k hk=>?_,by simp only [List.length_cons]at h2;omega⟩⟩
      have:=h1 (k+1) (by simpa using hk)
      rw [show i+1+k=i+(k+1)by omega,this];rfl
def XBi (a:List Int):Nd:=ofN 3 (a.map X34)
theorem M_row (l:List Int) {a:List Int} (h0:a≠[]) (i j:Nat):M K14 l (XBi a) i j↔(∀ k:Nat,k<a.length→l[i+k]?=a[k]?)∧j=i+a.length:=by
 unfold XBi ofN
 by_cases h1:(a.map X34).length=1
 ·
  rw [if_pos h1]
  obtain⟨r,rfl⟩:∃ r,a=[r]:=by
   match a,h1 with
   | [r],_=>exact⟨r,rfl⟩
  have:=XFh l [r] i j
  rw [← this,List.map_cons,List.map_nil,X89,List.headD_cons]
  constructor
  · intro h;exact⟨j,h,by rw [X89]⟩
  ·
   rintro⟨m,h,e⟩
   rw [X89]at e
   subst e;exact h
 ·
  rw [if_neg h1,X6g,← XFh]
  constructor
  ·
   rintro(h | h | h | ⟨_,h⟩ | h | h)
   · exact absurd h.1 (by decide)
   · exact absurd h.1 (by decide)
   · exact absurd h.1 (by decide)
   · exact h
   · exact absurd h.1 (by decide)
   · exact absurd h.1 (by decide)
  · intro h;exact .inr (.inr (.inr (.inl ⟨rfl,h⟩)))
theorem XCR {r:Int} (h:X0a r) (h2:¬ r=65533):X0L X16 (X34 r):=by
 refine(X7E _).1 (X9R ?_)
 simp only [X1l,X25,Bool.and_eq_true,Bool.or_eq_true,decide_eq_true_eq]
 unfold X0a at h
 exact⟨h,h2⟩
theorem XEc:∀ {a:List Int},(∀ r∈a,X0a r)→(∀ r∈a,¬ r=65533)→X0V X16 (a.map X34):=by
 intro a
 induction a with
 | nil=>intro _ _;rw [List.map_nil,X0V];trivial
 | cons r a ih =>
  intro h1 h2
  rw [List.map_cons,X0V]
  exact⟨XCR (h1 r (by simp)) (h2 r (by simp)),ih (fun x hx=>h1 x (by simp [hx])) (fun x hx=>h2 x (by simp [hx]))⟩
theorem XCS {a:List Int} (h0:a≠[]) (h1:∀ r∈a,X0a r) (h2:∀ r∈a,¬ r=65533):X0L X16 (XBi a):=by
 unfold XBi ofN
 split
 ·
  rename_i h
  obtain⟨r,rfl⟩:∃ r,a=[r]:=by
   match a,h with
   | [r],_=>exact⟨r,rfl⟩
  exact XCR (h1 r (by simp)) (h2 r (by simp))
 ·
  rw [X0L]
  refine⟨?_,XEc h1 h2⟩
  rename_i h
  have hl:2≤(a.map X34).length:=by
   have:(a.map X34).length≠0:=by rw [List.length_map];cases a with | nil=>exact absurd rfl h0 | cons=>simp
   omega
  simp only [X16,X2Q,X3o,List.length_nil]
  simp
  have:2≤a.length:=by simpa using hl
  omega
theorem XGp:∀ (a:List Int) (w:Nat),w+a.length≤1000000→wrL K14 1000000 (a.map X34) w=w+a.length:=by
 intro a
 induction a with
 | nil=>intro w _;rw [List.map_nil,wrL];rfl
 | cons r a ih =>
  intro w h
  simp only [List.length_cons]at h ⊢
  have:wr K14 1000000 (X34 r)=1:=by unfold X34;rw [wr,if_neg (by decide),if_neg (by decide),if_neg (by decide)]
  rw [List.map_cons,wrL,this,Nat.min_eq_left (by omega),ih _ (by omega)];omega
theorem XCT:∀ (a:List Int),X1O (a.map X34)=a.length:=by
 intro a
 induction a with
 | nil=>rw [List.map_nil,X1O];rfl
 | cons r a ih=>rw [List.map_cons,X1O,ih,X34,X2N];simp only [List.length_cons];omega
theorem XEd {a:List Int} (h0:a≠[]) (hl:a.length≤12) (h1:∀ r∈a,X0a r) (h2:∀ r∈a,¬ r=65533):Nfa.cnt X16 (XBi a) 1≤2000∧wp K14 20001 (XBi a)≤20000:=by
 refine XET (XCS h0 h1 h2) ?_ ?_
 ·
  unfold XBi ofN
  split
  ·
   cases a with
   | nil=>exact absurd rfl h0
   | cons r a=>rw [List.map_cons,List.headD_cons,X34,X2N];omega
  · rw [size,XCT];omega
 ·
  unfold XBi ofN
  split
  ·
   cases a with
   | nil=>exact absurd rfl h0
   | cons r a=>rw [List.map_cons,List.headD_cons,X34,wr,if_neg (by decide),if_neg (by decide),if_neg (by decide)];omega
  · rw [wr,if_pos (by decide),XGp _ _ (by omega)];omega
def XEe (l a:List Int) (i:Nat):Bool:=decide (∀ k:Nat,k<a.length→l[i+k]?=a[k]?)
theorem XEf {l a:List Int} (h0:a≠[]) (h1:∀ r∈a,X0a r) (h2:∀ r∈a,¬ r=65533) {i:Nat} (hi:i≤l.length) :
  X5M l (XBi a) ((i:Nat):Int)=if XEe l a i=true then[i+a.length]else[]:=by
 have hm:∀ j,j∈X5M l (XBi a) ((i:Nat):Int)↔XEe l a i=true∧j=i+a.length:=fun j=>by
  rw [XCH (XCS h0 h1 h2) hi,M_row l h0,XEe,decide_eq_true_eq]
 refine X6k (XEU _ _ _) (by split<;>simp) fun j=>?_
 rw [hm]
 split
 · rename_i h;rw [List.mem_singleton];exact⟨fun x=>x.2,fun x=>⟨h,x⟩⟩
 · rename_i h;simp [h]
end Go.Vai

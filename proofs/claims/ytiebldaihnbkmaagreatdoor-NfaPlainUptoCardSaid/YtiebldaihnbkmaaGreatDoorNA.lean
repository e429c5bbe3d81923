/-
  What is proved here: patterns as data; what the machine's functions tell of single nodes (part NA). nothing; short names for data that walks tell again and again (part RT). small laws of marks, as the walks ask for them (part NF). No conditions but those that the theorems state.
-/
import Derived.Test.YtiebldaihnbkmaaGreatDoorRD
import Derived.Test.YtiebldaihnbkmaaGreatDoorPureNfa5
import Derived.Test.YtiebldaihnbkmaaGreatDoorRI
import Derived.Test.YtiebldaihnbkmaaGreatDoorPureNfa3
set_option linter.unusedVariables false
set_option linter.unusedSimpArgs false
namespace Go.Vai
open Go.Nfa
noncomputable section
def X0s (r:Int×Int):List D:=[.int .i32 r.1,.int .i32 r.2]
theorem XA1 (r:Int×Int):(X0s r).length=2:=rfl
mutual
def X43:Nd→List D
 | .mk k set no kids mn mx=>[.int .i64 k,.sl 2 set.length (set.flatMap X0s),.bool no,.sl 6 kids.length (X0R kids),.int .i64 mn,.int .i64 mx]
def X0R:List Nd→List D
 | []=>[]
 | n::ns=>X43 n++X0R ns
end
theorem X2L (n:Nd):(X43 n).length=6:=by cases n;simp [X43]
theorem X44:∀ ns:List Nd,X0R ns=ns.flatMap X43
 | []=>rfl
 | n::ns=>by rw [X0R,X44 ns,List.flatMap_cons]
theorem XIB {set:List (Int×Int)} {i:Nat} {r:Int×Int} (h:set[i]?=some r):((set.flatMap X0s).drop (((i:Nat):Int).toNat*2)).take 2=[.int .i32 r.1,.int .i32 r.2]:=by
 rw [Int.toNat_natCast];exact X0l XA1 h
theorem XAq {kids:List Nd} {i:Nat} {k:Int} {set:List (Int×Int)} {no:Bool} {ks:List Nd} {mn mx:Int} (h:kids[i]?=some (.mk k set no ks mn mx)) :
  ((X0R kids).drop (((i:Nat):Int).toNat*6)).take 6=[.int .i64 k,.sl 2 set.length (set.flatMap X0s),.bool no,.sl 6 ks.length (X0R ks),.int .i64 mn,.int .i64 mx]:=by
 rw [Int.toNat_natCast,X44]
 have:=X0l X2L h
 rw [this,X43]
theorem nth {α:Type} {l:List α} {i:Nat} (h:i<l.length):∃ x,l[i]?=some x∧l.drop i=x::l.drop (i+1):=⟨l[i],List.getElem?_eq_getElem h,List.drop_eq_getElem_cons h⟩
def X25 (r:Int):Bool:=(decide (0≤r) && decide (r<55296) || decide (57343<r) && decide (r≤1114111))
def X1l (r:Int):Bool:=X25 r && decide (¬ r=65533)
def X0o (r:Int×Int):Bool:=X1l r.1 && X1l r.2 && decide (r.1≤r.2)
def X2Q:Nd→Bool
 | .mk k set no kids mn mx=>(decide (k=2) || decide (((set.length:Nat):Int)=0) && !no) && (decide (k=5) || decide (mn=0) && decide (mx=0))
def X3o:Nd→Bool
 | .mk k set no kids mn mx =>
  if k=2 then decide (((kids.length:Nat):Int)=0) && (decide ((0:Int)<((set.length:Nat):Int)) || no) && set.all X0o
  else if k=3∨k=4 then decide ((2:Int)≤((kids.length:Nat):Int))
  else if k=5 then decide (((kids.length:Nat):Int)=1) && decide (0≤mn) && decide (mn≤9) && decide (mx≤9) && (decide (mx = -1) || decide (mn≤mx))
  else if k=6∨k=7 then decide (((kids.length:Nat):Int)=0)
  else false
def X16 (n:Nd):Bool:=X2Q n && X3o n
def XBg:List (Int×Int)→Nat→Int
 | [],_ => -1
 | r::rs,i=>if X0o r=true then XBg rs (i+1)else(i:Nat)
theorem XBm:∀ (l:List (Int×Int)) (i:Nat),(0≤XBg l i)↔l.all X0o=false:=by
 intro l
 induction l with
 | nil=>intro i;simp [XBg]
 | cons r rs ih =>
  intro i
  unfold XBg
  cases h:X0o r with
  | true=>rw [if_pos rfl,ih,List.all_cons,h,Bool.true_and]
  | false=>rw [if_neg (by simp),List.all_cons,h,Bool.false_and];simp
theorem XDz {l:List (Int×Int)}:D.bool (decide (0≤XBg l 0))=.bool (!l.all X0o):=by
 cases h:l.all X0o with
 | true=>rw [decide_eq_false (by rw [XBm,h];simp)];rfl
 | false=>rw [decide_eq_true (by rw [XBm,h])];rfl
mutual
/-- A pattern whose rows and numbers are of a machine's size. -/
def fit:Nd→Prop
 | .mk _ set _ kids mn mx=>set.length<4611686018427387904∧kids.length<4611686018427387904∧(-9223372036854775808≤mn∧mn<9223372036854775808)∧(-9223372036854775808≤mx∧mx<9223372036854775808)∧XBn kids
def XBn:List Nd→Prop
 | []=>True
 | n::ns=>fit n∧XBn ns
end
theorem XE0:∀ {ns:List Nd} {i:Nat} {n:Nd},XBn ns→ns[i]?=some n→fit n:=by
 intro ns
 induction ns with
 | nil=>intro i n _ h;simp at h
 | cons x ns ih =>
  intro i n h e
  rw [XBn]at h
  cases i with
  | zero=>simp at e;subst e;exact h.1
  | succ i=>exact ih h.2 (by simpa using e)
theorem XBo:∀ {ns:List Nd} {i:Nat} {n:Nd},ns[i]?=some n→size n≤X1O ns:=by
 intro ns
 induction ns with
 | nil=>intro i n h;simp at h
 | cons x ns ih =>
  intro i n e
  rw [X1O]
  cases i with
  | zero=>simp at e;subst e;omega
  | succ i=>have:=ih (i:=i) (n:=n) (by simpa using e);omega
theorem X4O {k:Int} {set:List (Int×Int)} {no:Bool} {kids:List Nd} {mn mx:Int} {i:Nat} {n:Nd} (h:fit (.mk k set no kids mn mx)) (e:kids[i]?=some n):fit n:=by
 rw [fit]at h;exact XE0 h.2.2.2.2 e
theorem X2f {k:Int} {set:List (Int×Int)} {no:Bool} {kids:List Nd} {mn mx:Int} {i m:Nat} {n:Nd} (h:size (.mk k set no kids mn mx)≤m+1) (e:kids[i]?=some n):size n≤m:=by
 rw [size]at h;have:=XBo e;omega
theorem XA2 (loc:Nd→Bool) (k:Int) (set:List (Int×Int)) (no:Bool) (kids:List Nd) (mn mx:Int) (d:Nat):Nfa.cnt loc (.mk k set no kids mn mx) d=if 40<d∨loc (.mk k set no kids mn mx)=false then 2001 else XB9 loc kids d 1:=by rw [Nfa.cnt]
theorem XG6 (loc:Nd→Bool):∀ (ks:List Nd) (d all:Nat),all≤2001→XB9 loc ks d all≤2001:=by
 intro ks
 induction ks with
 | nil=>intro d all h;rw [XB9];exact h
 | cons k ks ih =>
  intro d all h
  rw [XB9];split
  · exact Nat.le_refl _
  · exact ih _ _ (by omega)
theorem XIC (loc:Nd→Bool) (n:Nd) (d:Nat):Nfa.cnt loc n d≤2001:=by
 cases n;rw [Nfa.cnt];split
 · exact Nat.le_refl _
 · exact XG6 _ _ _ _ (by omega)
def K14:X47:=⟨2,3,4,5,6,7,by decide⟩
mutual
def XA3:Nd→Bool
 | .mk k set no kids mn mx=>X2g kids && X16 (.mk k set no kids mn mx)
def X2g:List Nd→Bool
 | []=>true
 | n::ns=>XA3 n && X2g ns
end
theorem X10 {k:Int} {set:List (Int×Int)} {no:Bool} {kids:List Nd} {mn mx:Int} {i:Nat} {n:Nd} (h:X0L X16 (.mk k set no kids mn mx)) (e:kids[i]?=some n):X0L X16 n:=by
 rw [X0L]at h
 have key:∀ {ns:List Nd} {i:Nat},X0V X16 ns→ns[i]?=some n→X0L X16 n:=by
  intro ns
  induction ns with
  | nil=>intro i _ e;simp at e
  | cons x ns ih =>
   intro i h e
   rw [X0V]at h
   cases i with
   | zero=>simp at e;subst e;exact h.1
   | succ i=>exact ih h.2 (by simpa using e)
 exact key h.2 e
theorem X4q:∀ ns:List Nd,ns.length≤X1O ns
 | []=>by simp [X1O]
 | n::ns=>by have:=X4q ns;have:=X58 n;rw [X1O,List.length_cons];omega
theorem X5L {k:Int} {set:List (Int×Int)} {no:Bool} {kids:List Nd} {mn mx:Int}:kids.length<size (.mk k set no kids mn mx):=by
 have:=X4q kids;rw [size];omega
mutual
theorem X7u:∀ n:Nd,XEY n≤size n
 | .mk k set no kids mn mx=>by have:=X6a kids;rw [XEY,size];omega
theorem X6a:∀ ns:List Nd,X5W ns≤X1O ns
 | []=>by simp [X5W]
 | n::ns=>by have:=X7u n;have:=X6a ns;rw [X5W,X1O];omega
end
theorem XID (K:X47) (c:Nat) (n:Nd):wp K c n≤c:=by cases n;rw [wp];omega
theorem XFZ {a b A B:Int} (h0:0≤a) (h1:a≤A) (h2:0≤b) (h3:b≤B):0≤a*b∧a*b≤A*B :=
 ⟨Int.mul_nonneg h0 h2,Int.mul_le_mul h1 h3 h2 (Int.le_trans h0 h1)⟩
theorem X7A {set:List (Int×Int)} {no:Bool} {kids:List Nd} {mn mx:Int} (h:X0L X16 (.mk 5 set no kids mn mx)):0≤mn∧mn≤9∧mx≤9∧(mx = -1∨mn≤mx):=by
 rw [X0L]at h
 have h:=h.1
 simp [X16,X3o]at h
 omega
theorem X1w {k:Int} {set:List (Int×Int)} {no:Bool} {kids:List Nd} {mn mx:Int} (h:X0L X16 (.mk k set no kids mn mx)):k=2∨k=3∨k=4∨k=5∨k=6∨k=7:=by
 rw [X0L]at h
 have h:=h.1
 simp only [X16,X3o,Bool.and_eq_true]at h
 have h:=h.2
 split at h
 · omega
 ·
  split at h
  · omega
  ·
   split at h
   · omega
   ·
    split at h
    · omega
    · cases h
theorem X97 (K:X47) (c:Nat) (k:Int) (set:List (Int×Int)) (no:Bool) (kids:List Nd) (mn mx:Int):wp K c (.mk k set no kids mn mx)=min (if k=K.cat then wpL K c kids 0 else if k=K.alt then wpL K c kids 0+1 else if k=K.rep then wpL K c kids 0*(if mx<0 then mn+1 else mx).toNat+1 else 1) c:=by rw [wp]
theorem X3p (K:X47) (c w:Nat):wpL K c [] w=w:=by rw [wpL]
theorem X7v {w:Nat} {t:Int} (h:0≤t):((w*t.toNat:Nat):Int)=(w:Int)*t:=by rw [Int.natCast_mul,Int.toNat_of_nonneg h]
theorem X4P {x:Int×Int} {xs:List (Int×Int)} {no:Bool} {r:Int}:X2k (x::xs) no r=if (decide (x.1≤r) && decide (r≤x.2))=true then !no else X2k xs no r:=by
 unfold X2k
 rw [List.any_cons]
 cases h:(decide (x.1≤r) && decide (r≤x.2))with
 | true=>rw [Bool.true_or,if_pos rfl,if_pos rfl]
 | false=>rw [Bool.false_or,if_neg (by simp:¬ false=true)]
end
end Go.Vai
namespace Go.Vai
open Go.Nfa
abbrev D.vI (l:List Int):D:=.sl 1 l.length (l.map (D.int .i32))
abbrev D.vN (l:List Nat):D:=.sl 1 l.length (l.map X0e)
abbrev cN (k:Int) (set:List (Int×Int)) (no:Bool) (kids:List Nd) (mn mx:Int):List D:=[.int .i64 k,.sl 2 set.length (set.flatMap X0s),.bool no,.sl 6 kids.length (X0R kids),.int .i64 mn,.int .i64 mx]
end Go.Vai
namespace Go.Vai
open Go.Nfa
noncomputable section
theorem XA4 {set:List (Int×Int)} {no:Bool} {kids:List Nd} {mn mx:Int} (h:X0L X16 (.mk 5 set no kids mn mx)):∃ x,kids[0]?=some x:=by
 rw [X0L]at h
 have h:=h.1
 simp [X16,X3o]at h
 exact⟨kids[0]'(by omega),List.getElem?_eq_getElem (by omega)⟩
mutual
theorem X7w:∀ n:Nd,X0L X16 n→Ok K14 n
 | .mk k set no kids mn mx,h=>by
  have hk:=X1w h
  have h0:=h
  rw [X0L]at h
  have hL:=XBp kids h.2
  have h1:=h.1
  simp only [X16,X3o,Bool.and_eq_true]at h1
  have h1:=h1.2
  unfold Ok
  simp only [K14]
  rcases hk with rfl | rfl | rfl | rfl | rfl | rfl
  · exact .inl rfl
  · exact .inr (.inr (.inr (.inl ⟨rfl,hL⟩)))
  ·
   refine .inr (.inr (.inr (.inr (.inl ⟨rfl,?_,hL⟩))))
   rintro rfl
   simp at h1
  ·
   obtain⟨q1,q2,q3,q4⟩:=X7A h0
   obtain⟨x,hx⟩:=XA4 h0
   refine .inr (.inr (.inr (.inr (.inr ⟨rfl,q1,?_,?_,hL⟩))))
   · omega
   · rintro rfl;simp at hx
  · exact .inr (.inl rfl)
  · exact .inr (.inr (.inl rfl))
theorem XBp:∀ ns:List Nd,X0V X16 ns→OkL K14 ns
 | [],_=>by unfold OkL;trivial
 | n::ns,h=>by rw [X0V]at h;unfold OkL;exact⟨X7w n h.1,XBp ns h.2⟩
end
def XIE (b:List Bool):List Nat:=(List.range b.length).filter fun j=>b.getD j false
def X5M (l:List Int) (n:Nd) (at_:Int):List Nat:=if at_<0∨(l.length:Int)<at_ then[]else XIE (X1m K14 l n (only l at_.toNat))
theorem X7x {l:List Int} {n:Nd} {at_:Int} (h:at_<0∨(l.length:Int)<at_):X5M l n at_=[]:=if_pos h
theorem XA5 {l:List Int} {n:Nd} {at_:Int} (h:¬ (at_<0∨(l.length:Int)<at_)):X5M l n at_=XIE (X1m K14 l n (only l at_.toNat)):=if_neg h
end
end Go.Vai

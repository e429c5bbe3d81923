/-
  What is proved here: patterns as data; what the machine's functions tell of single nodes (part NA). nothing; short names for data that walks tell again and again (part RT). small laws of marks, as the walks ask for them (part NF). No conditions but those that the theorems state.
-/
import Derived.Test.YtfcadnhoejlgoaaGreatDoorRD
import Derived.Test.YtfcadnhoejlgoaaGreatDoorPureNfa5
import Derived.Test.YtfcadnhoejlgoaaGreatDoorRI
import Derived.Test.YtfcadnhoejlgoaaGreatDoorPureNfa3
set_option linter.unusedVariables false
set_option linter.unusedSimpArgs false
namespace Go.Vai
open Go.Nfa
noncomputable section
def X0I (r:Int×Int):List D:=[.int .i32 r.1,.int .i32 r.2]
theorem XBP (r:Int×Int):(X0I r).length=2:=rfl
mutual
def X4e:Nd→List D
 | .mk k set no kids mn mx=>[.int .i64 k,.sl 2 set.length (set.flatMap X0I),.bool no,.sl 6 kids.length (X0G kids),.int .i64 mn,.int .i64 mx]
def X0G:List Nd→List D
 | []=>[]
 | n::ns=>X4e n++X0G ns
end
theorem X2i (n:Nd):(X4e n).length=6:=by cases n;simp [X4e]
theorem X4f:∀ ns:List Nd,X0G ns=ns.flatMap X4e
 | []=>rfl
 | n::ns=>by rw [X0G,X4f ns,List.flatMap_cons]
theorem XGR {set:List (Int×Int)} {i:Nat} {r:Int×Int} (h:set[i]?=some r):((set.flatMap X0I).drop (((i:Nat):Int).toNat*2)).take 2=[.int .i32 r.1,.int .i32 r.2]:=by
 rw [Int.toNat_natCast];exact X0x XBP h
theorem X4z {kids:List Nd} {i:Nat} {k:Int} {set:List (Int×Int)} {no:Bool} {ks:List Nd} {mn mx:Int} (h:kids[i]?=some (.mk k set no ks mn mx)) :
  ((X0G kids).drop (((i:Nat):Int).toNat*6)).take 6=[.int .i64 k,.sl 2 set.length (set.flatMap X0I),.bool no,.sl 6 ks.length (X0G ks),.int .i64 mn,.int .i64 mx]:=by
 rw [Int.toNat_natCast,X4f]
 have:=X0x X2i h
 rw [this,X4e]
theorem nth {α:Type} {l:List α} {i:Nat} (h:i<l.length):∃ x,l[i]?=some x∧l.drop i=x::l.drop (i+1):=⟨l[i],List.getElem?_eq_getElem h,List.drop_eq_getElem_cons h⟩
def X2a (r:Int):Bool:=(decide (0≤r) && decide (r<55296) || decide (57343<r) && decide (r≤1114111))
def X1z (r:Int):Bool:=X2a r && decide (¬ r=65533)
def X10 (r:Int×Int):Bool:=X1z r.1 && X1z r.2 && decide (r.1≤r.2)
def X2t:Nd→Bool
 | .mk k set no kids mn mx=>(decide (k=2) || decide (((set.length:Nat):Int)=0) && !no) && (decide (k=5) || decide (mn=0) && decide (mx=0))
def X4Y:Nd→Bool
 | .mk k set no kids mn mx =>
  if k=2 then decide (((kids.length:Nat):Int)=0) && (decide ((0:Int)<((set.length:Nat):Int)) || no) && set.all X10
  else if k=3∨k=4 then decide ((2:Int)≤((kids.length:Nat):Int))
  else if k=5 then decide (((kids.length:Nat):Int)=1) && decide (0≤mn) && decide (mn≤9) && decide (mx≤9) && (decide (mx = -1) || decide (mn≤mx))
  else if k=6∨k=7 then decide (((kids.length:Nat):Int)=0)
  else false
def X18 (n:Nd):Bool:=X2t n && X4Y n
def XDD:List (Int×Int)→Nat→Int
 | [],_ => -1
 | r::rs,i=>if X10 r=true then XDD rs (i+1)else(i:Nat)
theorem XDY:∀ (l:List (Int×Int)) (i:Nat),(0≤XDD l i)↔l.all X10=false:=by
 intro l
 induction l with
 | nil=>intro i;simp [XDD]
 | cons r rs ih =>
  intro i
  unfold XDD
  cases h:X10 r with
  | true=>rw [if_pos rfl,ih,List.all_cons,h,Bool.true_and]
  | false=>rw [if_neg (by simp),List.all_cons,h,Bool.false_and];simp
theorem XGS {l:List (Int×Int)}:D.bool (decide (0≤XDD l 0))=.bool (!l.all X10):=by
 cases h:l.all X10 with
 | true=>rw [decide_eq_false (by rw [XDY,h];simp)];rfl
 | false=>rw [decide_eq_true (by rw [XDY,h])];rfl
mutual
/-- A pattern whose rows and numbers are of a machine's size. -/
def fit:Nd→Prop
 | .mk _ set _ kids mn mx=>set.length<4611686018427387904∧kids.length<4611686018427387904∧(-9223372036854775808≤mn∧mn<9223372036854775808)∧(-9223372036854775808≤mx∧mx<9223372036854775808)∧XDZ kids
def XDZ:List Nd→Prop
 | []=>True
 | n::ns=>fit n∧XDZ ns
end
theorem XGT:∀ {ns:List Nd} {i:Nat} {n:Nd},XDZ ns→ns[i]?=some n→fit n:=by
 intro ns
 induction ns with
 | nil=>intro i n _ h;simp at h
 | cons x ns ih =>
  intro i n h e
  rw [XDZ]at h
  cases i with
  | zero=>simp at e;subst e;exact h.1
  | succ i=>exact ih h.2 (by simpa using e)
theorem X94:∀ {ns:List Nd} {i:Nat} {n:Nd},ns[i]?=some n→size n≤X1f ns:=by
 intro ns
 induction ns with
 | nil=>intro i n h;simp at h
 | cons x ns ih =>
  intro i n e
  rw [X1f]
  cases i with
  | zero=>simp at e;subst e;omega
  | succ i=>have:=ih (i:=i) (n:=n) (by simpa using e);omega
theorem X20 {k:Int} {set:List (Int×Int)} {no:Bool} {kids:List Nd} {mn mx:Int} {i:Nat} {n:Nd} (h:fit (.mk k set no kids mn mx)) (e:kids[i]?=some n):fit n:=by
 rw [fit]at h;exact XGT h.2.2.2.2 e
theorem X1T {k:Int} {set:List (Int×Int)} {no:Bool} {kids:List Nd} {mn mx:Int} {i m:Nat} {n:Nd} (h:size (.mk k set no kids mn mx)≤m+1) (e:kids[i]?=some n):size n≤m:=by
 rw [size]at h;have:=X94 e;omega
theorem XBQ (loc:Nd→Bool) (k:Int) (set:List (Int×Int)) (no:Bool) (kids:List Nd) (mn mx:Int) (d:Nat):Nfa.cnt loc (.mk k set no kids mn mx) d=if 40<d∨loc (.mk k set no kids mn mx)=false then 2001 else XCh loc kids d 1:=by rw [Nfa.cnt]
theorem XIz (loc:Nd→Bool):∀ (ks:List Nd) (d all:Nat),all≤2001→XCh loc ks d all≤2001:=by
 intro ks
 induction ks with
 | nil=>intro d all h;rw [XCh];exact h
 | cons k ks ih =>
  intro d all h
  rw [XCh];split
  · exact Nat.le_refl _
  · exact ih _ _ (by omega)
theorem XLL (loc:Nd→Bool) (n:Nd) (d:Nat):Nfa.cnt loc n d≤2001:=by
 cases n;rw [Nfa.cnt];split
 · exact Nat.le_refl _
 · exact XIz _ _ _ _ (by omega)
theorem XDa {set:List (Int×Int)} {i:Nat} {r:Int×Int} (h:set[i]?=some r):(set.flatMap X0I)[((i:Nat):Int).toNat*2+0]?=some (.int .i32 r.1):=by
 have:=congrArg (fun l=>l[0]?) (XGR h)
 simpa[List.getElem?_take,List.getElem?_drop]using this
theorem XDb {set:List (Int×Int)} {i:Nat} {r:Int×Int} (h:set[i]?=some r):(set.flatMap X0I)[((i:Nat):Int).toNat*2+1]?=some (.int .i32 r.2):=by
 have:=congrArg (fun l=>l[1]?) (XGR h)
 simpa[List.getElem?_take,List.getElem?_drop]using this
def K14:X2u:=⟨2,3,4,5,6,7,by decide⟩
mutual
def XBR:Nd→Bool
 | .mk k set no kids mn mx=>X3C kids && X18 (.mk k set no kids mn mx)
def X3C:List Nd→Bool
 | []=>true
 | n::ns=>XBR n && X3C ns
end
theorem X0D {k:Int} {set:List (Int×Int)} {no:Bool} {kids:List Nd} {mn mx:Int} {i:Nat} {n:Nd} (h:X0H X18 (.mk k set no kids mn mx)) (e:kids[i]?=some n):X0H X18 n:=by
 rw [X0H]at h
 have key:∀ {ns:List Nd} {i:Nat},X0j X18 ns→ns[i]?=some n→X0H X18 n:=by
  intro ns
  induction ns with
  | nil=>intro i _ e;simp at e
  | cons x ns ih =>
   intro i h e
   rw [X0j]at h
   cases i with
   | zero=>simp at e;subst e;exact h.1
   | succ i=>exact ih h.2 (by simpa using e)
 exact key h.2 e
theorem X5Y:∀ ns:List Nd,ns.length≤X1f ns
 | []=>by simp [X1f]
 | n::ns=>by have:=X5Y ns;have:=X3G n;rw [X1f,List.length_cons];omega
theorem X4J {k:Int} {set:List (Int×Int)} {no:Bool} {kids:List Nd} {mn mx:Int}:kids.length<size (.mk k set no kids mn mx):=by
 have:=X5Y kids;rw [size];omega
theorem XJ0 (k:Int) (set:List (Int×Int)) (no:Bool) (kids:List Nd) (mn mx:Int):size (.mk k set no kids mn mx)=1+X1f kids:=by rw [size]
theorem XJ1 (k:Int) (set:List (Int×Int)) (no:Bool) (kids:List Nd) (mn mx:Int):X78 (.mk k set no kids mn mx)=X49 kids+1:=by rw [X78]
mutual
theorem XDc:∀ n:Nd,X78 n≤size n
 | .mk k set no kids mn mx=>by have:=X50 kids;rw [X78,size];omega
theorem X50:∀ ns:List Nd,X49 ns≤X1f ns
 | []=>by simp [X49]
 | n::ns=>by have:=XDc n;have:=X50 ns;rw [X49,X1f];omega
end
theorem XLM (K:X2u) (c:Nat) (n:Nd):wp K c n≤c:=by cases n;rw [wp];omega
theorem XBS {a b A B:Int} (h0:0≤a) (h1:a≤A) (h2:0≤b) (h3:b≤B):0≤a*b∧a*b≤A*B :=
 ⟨Int.mul_nonneg h0 h2,Int.mul_le_mul h1 h3 h2 (Int.le_trans h0 h1)⟩
theorem X51 {set:List (Int×Int)} {no:Bool} {kids:List Nd} {mn mx:Int} (h:X0H X18 (.mk 5 set no kids mn mx)):0≤mn∧mn≤9∧mx≤9∧(mx = -1∨mn≤mx):=by
 rw [X0H]at h
 have h:=h.1
 simp [X18,X4Y]at h
 omega
theorem X2C {k:Int} {set:List (Int×Int)} {no:Bool} {kids:List Nd} {mn mx:Int} (h:X0H X18 (.mk k set no kids mn mx)):k=2∨k=3∨k=4∨k=5∨k=6∨k=7:=by
 rw [X0H]at h
 have h:=h.1
 simp only [X18,X4Y,Bool.and_eq_true]at h
 have h:=h.2
 split at h
 · omega
 ·
  split at h
  · omega
  ·
   split at h
   · omega
   ·
    split at h
    · omega
    · cases h
theorem XAO (K:X2u) (c:Nat) (k:Int) (set:List (Int×Int)) (no:Bool) (kids:List Nd) (mn mx:Int):wp K c (.mk k set no kids mn mx)=min (if k=K.cat then wpL K c kids 0 else if k=K.alt then wpL K c kids 0+1 else if k=K.rep then wpL K c kids 0*(if mx<0 then mn+1 else mx).toNat+1 else 1) c:=by rw [wp]
theorem XGU (K:X2u) (c:Nat) (k:Int) (set:List (Int×Int)) (no:Bool) (kids:List Nd) (mn mx:Int):wr K c (.mk k set no kids mn mx)=if k=K.cat then wrL K c kids 0 else if k=K.alt then wrL K c kids 0+1 else if k=K.rep then min (wrL K c kids 0*(if mx<0 then mn+1 else mx).toNat+1) c else 1:=by rw [wr]
theorem X4K (K:X2u) (c w:Nat):wpL K c [] w=w:=by rw [wpL]
theorem X6E (K:X2u) (c w:Nat):wrL K c [] w=w:=by rw [wrL]
theorem XLN (K:X2u) (c:Nat):∀ (ks:List Nd) (w:Nat),w≤c→wrL K c ks w≤c:=by
 intro ks
 induction ks with
 | nil=>intro w h;rw [wrL];exact h
 | cons k ks ih=>intro w h;rw [wrL];exact ih _ (Nat.min_le_right _ _)
theorem wr_le (K:X2u) (c:Nat) (n:Nd) (hc:1≤c):wr K c n≤c+1:=by
 cases n;rename_i k set no kids mn mx
 rw [wr]
 have:=XLN K c kids 0 (Nat.zero_le _)
 split
 · omega
 ·
  split
  · omega
  · split<;>omega
theorem X6F {w:Nat} {t:Int} (h:0≤t):((w*t.toNat:Nat):Int)=(w:Int)*t:=by rw [Int.natCast_mul,Int.toNat_of_nonneg h]
theorem X2W {x:Int×Int} {xs:List (Int×Int)} {no:Bool} {r:Int}:X2L (x::xs) no r=if (decide (x.1≤r) && decide (r≤x.2))=true then !no else X2L xs no r:=by
 unfold X2L
 rw [List.any_cons]
 cases h:(decide (x.1≤r) && decide (r≤x.2))with
 | true=>rw [Bool.true_or,if_pos rfl,if_pos rfl]
 | false=>rw [Bool.false_or,if_neg (by simp:¬ false=true)]
theorem XI4 {k:Int} {set:List (Int×Int)} {no:Bool} {kids:List Nd} {mn mx t C:Int} {w c:Nat} (hk:k=5) (hr:wrL K14 c kids 0=w) (ht:t=if mx<0 then mn+1 else mx) (h0:0≤t) (hc:C=(c:Int)) :
  D.int .i64 (min ((w:Int)*t+1) C)=.int .i64 ((wr K14 c (.mk k set no kids mn mx):Nat):Int):=by
 subst hk hc
 congr 1
 rw [XGU,hr]
 have e:=X6F (w:=w) (t:=t) h0
 rw [← ht]
 simp only [K14,reduceIte,Int.reduceEq]
 omega
theorem XLO {k:Int} {set:List (Int×Int)} {no:Bool} {kids:List Nd} {mn mx:Int} {w c:Nat} (hk:k=3) (hr:wrL K14 c kids 0=w):D.int .i64 (w:Int)=.int .i64 ((wr K14 c (.mk k set no kids mn mx):Nat):Int):=by
 subst hk;congr 1;rw [XGU,hr];simp only [K14,reduceIte]
theorem XLP {k:Int} {set:List (Int×Int)} {no:Bool} {kids:List Nd} {mn mx:Int} {w c:Nat} (hk:k=4) (hr:wrL K14 c kids 0=w):D.int .i64 ((w+1:Nat):Int)=.int .i64 ((wr K14 c (.mk k set no kids mn mx):Nat):Int):=by
 subst hk;congr 1;rw [XGU,hr];simp only [K14,reduceIte,Int.reduceEq]
theorem XLQ {k:Int} {set:List (Int×Int)} {no:Bool} {kids:List Nd} {mn mx:Int} {c:Nat} (h3:¬ k=3) (h4:¬ k=4) (h5:¬ k=5):D.int .i64 1=.int .i64 ((wr K14 c (.mk k set no kids mn mx):Nat):Int):=by
 congr 1;rw [XGU];simp only [K14,h3,h4,h5,reduceIte];rfl
end
end Go.Vai
namespace Go.Vai
open Go.Nfa
abbrev D.vI (l:List Int):D:=.sl 1 l.length (l.map (D.int .i32))
abbrev D.vN (l:List Nat):D:=.sl 1 l.length (l.map X0i)
abbrev cN (k:Int) (set:List (Int×Int)) (no:Bool) (kids:List Nd) (mn mx:Int):List D:=[.int .i64 k,.sl 2 set.length (set.flatMap X0I),.bool no,.sl 6 kids.length (X0G kids),.int .i64 mn,.int .i64 mx]
end Go.Vai
namespace Go.Vai
open Go.Nfa
noncomputable section
theorem XBT {a b:List Bool} {i:Nat} (hab:a.length=b.length) (hi:i<a.length):(Nfa.X2K a b)[i]?=some (a.getD i false || b.getD i false):=by
 unfold Nfa.X2K
 rw [List.getElem?_zipWith,getD_some (d:=false) hi,getD_some (d:=false) (hab ▸ hi)]
theorem X95 {a b:List Bool} {i:Nat} (hab:a.length=b.length) (hi:i<a.length):(decide (a.drop i=b.drop i))=(decide (a.getD i false=b.getD i false) && decide (a.drop (i+1)=b.drop (i+1))):=by
 have hb:i<b.length:=hab ▸ hi
 have h:a.drop i=b.drop i↔a.getD i false=b.getD i false∧a.drop (i+1)=b.drop (i+1):=by
  rw [List.drop_eq_getElem_cons hi,List.drop_eq_getElem_cons hb,List.cons.injEq,X4R (List.getElem?_eq_getElem hi),X4R (List.getElem?_eq_getElem hb)]
 rw [decide_eq_decide.2 h,Bool.decide_and]
theorem XJ2 {p q:Bool}:(bif p then(bif q then false else true)else(bif q then true else false))=decide (¬ p=q):=by cases p<;>cases q<;>rfl
theorem X89 {set:List (Int×Int)} {no:Bool} {kids:List Nd} {mn mx:Int} (h:X0H X18 (.mk 5 set no kids mn mx)):∃ x,kids[0]?=some x:=by
 rw [X0H]at h
 have h:=h.1
 simp [X18,X4Y]at h
 exact⟨kids[0]'(by omega),List.getElem?_eq_getElem (by omega)⟩
mutual
theorem X6G:∀ n:Nd,X0H X18 n→Ok K14 n
 | .mk k set no kids mn mx,h=>by
  have hk:=X2C h
  have h0:=h
  rw [X0H]at h
  have hL:=XDd kids h.2
  have h1:=h.1
  simp only [X18,X4Y,Bool.and_eq_true]at h1
  have h1:=h1.2
  unfold Ok
  simp only [K14]
  rcases hk with rfl | rfl | rfl | rfl | rfl | rfl
  · exact .inl rfl
  · exact .inr (.inr (.inr (.inl ⟨rfl,hL⟩)))
  ·
   refine .inr (.inr (.inr (.inr (.inl ⟨rfl,?_,hL⟩))))
   rintro rfl
   simp at h1
  ·
   obtain⟨q1,q2,q3,q4⟩:=X51 h0
   obtain⟨x,hx⟩:=X89 h0
   refine .inr (.inr (.inr (.inr (.inr ⟨rfl,q1,?_,?_,hL⟩))))
   · omega
   · rintro rfl;simp at hx
  · exact .inr (.inl rfl)
  · exact .inr (.inr (.inl rfl))
theorem XDd:∀ ns:List Nd,X0j X18 ns→OkL K14 ns
 | [],_=>by unfold OkL;trivial
 | n::ns,h=>by rw [X0j]at h;unfold OkL;exact⟨X6G n h.1,XDd ns h.2⟩
end
theorem X0l {l:List Int} {n:Nd} {b:List Bool} (h:X0H X18 n) (hb:b.length=l.length+1):(X0B K14 l n b).length=l.length+1:=(X4L K14 l n (X6G n h) b hb).1
theorem XGV (K:X2u) (l:List Int) (kind:Int) (set:List (Int×Int)) (no:Bool) (kids:List Nd) (mn mx:Int) (b:List Bool):X0B K l (.mk kind set no kids mn mx) b =
  if kind=K.set then shift l set no b
  else if kind=K.beg then(X1D l).set 0 (b.getD 0 false)
  else if kind=K.fin then(X1D l).set l.length (b.getD l.length false)
  else if kind=K.cat then X2M K l kids b
  else if kind=K.alt then X21 K l kids b (X1D l)
  else if kind=K.rep then X3a K l kids mn mx b
  else X1D l:=by rw [X0B]
theorem X96 {l:List Int} {set:List (Int×Int)} {no:Bool} {b:List Bool} {i:Nat} (h:i<l.length):(shift l set no b)[i+1]?=some (b.getD i false && X2L set no (l.getD i 0)):=by
 unfold shift
 rw [List.getElem?_map,List.getElem?_range (by omega)]
 simp only [Option.map_some,getD_some (d:=0) h]
theorem X52 {K:X2u} {l:List Int} {kids:List Nd} {x:Nd} {mn mx:Int} {b:List Bool} (h:kids[0]?=some x):X3a K l kids mn mx b=grow (X0B K l x) mx (l.length+2) mn (rep (X0B K l x) mn.toNat b) (Nfa.X2K (X1D l) (rep (X0B K l x) mn.toNat b)):=by
 cases kids with
 | nil=>simp at h
 | cons y ys=>simp at h;subst h;rw [X3a]
theorem XDe {f:List Bool→List Bool} {mx i:Int} {k:Nat} {x out:List Bool} (h:¬ (mx<0∨i<mx)):grow f mx k i x out=out:=by
 cases k with
 | zero=>rfl
 | succ k=>rw [grow,if_neg h]
theorem X97 {f:List Bool→List Bool} {mx i:Int} {k:Nat} {x out:List Bool} (hk:0<k) (h:mx<0∨i<mx) (e:Nfa.X2K out (f x)=out):grow f mx k i x out=out:=by
 obtain⟨k,rfl⟩:∃ j,k=j+1:=⟨k - 1,by omega⟩
 rw [grow,if_pos h,if_pos e]
theorem XDf {f:List Bool→List Bool} {mx i:Int} {k:Nat} {x out:List Bool} (hk:0<k) (h:mx<0∨i<mx) (e:¬ Nfa.X2K out (f x)=out):grow f mx k i x out=grow f mx (k - 1) (i+1) (f x) (Nfa.X2K out (f x)):=by
 obtain⟨k,rfl⟩:∃ j,k=j+1:=⟨k - 1,by omega⟩
 rw [grow,if_pos h,if_neg e];rfl
theorem X1Z (l:List Int) (kind:Int) (set:List (Int×Int)) (no:Bool) (kids:List Nd) (mn mx:Int) (b:List Bool):X0B K14 l (.mk kind set no kids mn mx) b =
  if kind=2 then shift l set no b
  else if kind=6 then(X1D l).set 0 (b.getD 0 false)
  else if kind=7 then(X1D l).set l.length (b.getD l.length false)
  else if kind=3 then X2M K14 l kids b
  else if kind=4 then X21 K14 l kids b (X1D l)
  else if kind=5 then X3a K14 l kids mn mx b
  else X1D l:=by rw [XGV];rfl
def XJ3 (b:List Bool):List Nat:=(List.range b.length).filter fun j=>b.getD j false
theorem X98 {b:List Bool} {i:Nat}:(List.range (i+1)).filter (fun j=>b.getD j false)=(List.range i).filter (fun j=>b.getD j false)++(if b.getD i false=true then[i]else[]):=by
 rw [List.range_succ,List.filter_append]
 congr 1
 cases h:b.getD i false<;>simp [List.filter,h,-List.getD_eq_getElem?_getD]
def X0T (l:List Int) (n:Nd) (at_:Int):List Nat:=if at_<0∨(l.length:Int)<at_ then[]else XJ3 (X0B K14 l n (only l at_.toNat))
theorem X3W {l:List Int} {n:Nd} {at_:Int} (h:at_<0∨(l.length:Int)<at_):X0T l n at_=[]:=if_pos h
theorem X8A {l:List Int} {n:Nd} {at_:Int} (h:¬ (at_<0∨(l.length:Int)<at_)):X0T l n at_=XJ3 (X0B K14 l n (only l at_.toNat)):=if_neg h
theorem X5r {l:List Int} {i:Nat}:(only l i).length=l.length+1:=by simp [only,X1D]
end
end Go.Vai

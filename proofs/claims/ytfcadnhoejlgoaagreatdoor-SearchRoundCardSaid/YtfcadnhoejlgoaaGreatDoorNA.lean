/-
  What is proved here: patterns as data; what the machine's functions tell of single nodes (part NA). nothing; short names for data that walks tell again and again (part RT). small laws of marks, as the walks ask for them (part NF). No conditions but those that the theorems state.
-/
import Derived.Test.YtfcadnhoejlgoaaGreatDoorRD
import Derived.Test.YtfcadnhoejlgoaaGreatDoorPureNfa5
import Derived.Test.YtfcadnhoejlgoaaGreatDoorRI
import Derived.Test.YtfcadnhoejlgoaaGreatDoorPureNfa3
set_option linter.unusedVariables false
set_option linter.unusedSimpArgs false
namespace Go.Vai
open Go.Nfa
noncomputable section
def X0K (r:Int×Int):List D:=[.int .i32 r.1,.int .i32 r.2]
theorem XBL (r:Int×Int):(X0K r).length=2:=rfl
mutual
def X4b:Nd→List D
 | .mk k set no kids mn mx=>[.int .i64 k,.sl 2 set.length (set.flatMap X0K),.bool no,.sl 6 kids.length (X0G kids),.int .i64 mn,.int .i64 mx]
def X0G:List Nd→List D
 | []=>[]
 | n::ns=>X4b n++X0G ns
end
theorem X2f (n:Nd):(X4b n).length=6:=by cases n;simp [X4b]
theorem X4c:∀ ns:List Nd,X0G ns=ns.flatMap X4b
 | []=>rfl
 | n::ns=>by rw [X0G,X4c ns,List.flatMap_cons]
theorem XGG {set:List (Int×Int)} {i:Nat} {r:Int×Int} (h:set[i]?=some r):((set.flatMap X0K).drop (((i:Nat):Int).toNat*2)).take 2=[.int .i32 r.1,.int .i32 r.2]:=by
 rw [Int.toNat_natCast];exact X0v XBL h
theorem X4w {kids:List Nd} {i:Nat} {k:Int} {set:List (Int×Int)} {no:Bool} {ks:List Nd} {mn mx:Int} (h:kids[i]?=some (.mk k set no ks mn mx)) :
  ((X0G kids).drop (((i:Nat):Int).toNat*6)).take 6=[.int .i64 k,.sl 2 set.length (set.flatMap X0K),.bool no,.sl 6 ks.length (X0G ks),.int .i64 mn,.int .i64 mx]:=by
 rw [Int.toNat_natCast,X4c]
 have:=X0v X2f h
 rw [this,X4b]
theorem nth {α:Type} {l:List α} {i:Nat} (h:i<l.length):∃ x,l[i]?=some x∧l.drop i=x::l.drop (i+1):=⟨l[i],List.getElem?_eq_getElem h,List.drop_eq_getElem_cons h⟩
def X2X (r:Int):Bool:=(decide (0≤r) && decide (r<55296) || decide (57343<r) && decide (r≤1114111))
def X1w (r:Int):Bool:=X2X r && decide (¬ r=65533)
def X0y (r:Int×Int):Bool:=X1w r.1 && X1w r.2 && decide (r.1≤r.2)
def X2r:Nd→Bool
 | .mk k set no kids mn mx=>(decide (k=2) || decide (((set.length:Nat):Int)=0) && !no) && (decide (k=5) || decide (mn=0) && decide (mx=0))
def X4X:Nd→Bool
 | .mk k set no kids mn mx =>
  if k=2 then decide (((kids.length:Nat):Int)=0) && (decide ((0:Int)<((set.length:Nat):Int)) || no) && set.all X0y
  else if k=3∨k=4 then decide ((2:Int)≤((kids.length:Nat):Int))
  else if k=5 then decide (((kids.length:Nat):Int)=1) && decide (0≤mn) && decide (mn≤9) && decide (mx≤9) && (decide (mx = -1) || decide (mn≤mx))
  else if k=6∨k=7 then decide (((kids.length:Nat):Int)=0)
  else false
def X16 (n:Nd):Bool:=X2r n && X4X n
def XD4:List (Int×Int)→Nat→Int
 | [],_ => -1
 | r::rs,i=>if X0y r=true then XD4 rs (i+1)else(i:Nat)
theorem XDN:∀ (l:List (Int×Int)) (i:Nat),(0≤XD4 l i)↔l.all X0y=false:=by
 intro l
 induction l with
 | nil=>intro i;simp [XD4]
 | cons r rs ih =>
  intro i
  unfold XD4
  cases h:X0y r with
  | true=>rw [if_pos rfl,ih,List.all_cons,h,Bool.true_and]
  | false=>rw [if_neg (by simp),List.all_cons,h,Bool.false_and];simp
theorem XGH {l:List (Int×Int)}:D.bool (decide (0≤XD4 l 0))=.bool (!l.all X0y):=by
 cases h:l.all X0y with
 | true=>rw [decide_eq_false (by rw [XDN,h];simp)];rfl
 | false=>rw [decide_eq_true (by rw [XDN,h])];rfl
mutual
/-- A pattern whose rows and numbers are of a machine's size. -/
def fit:Nd→Prop
 | .mk _ set _ kids mn mx=>set.length<4611686018427387904∧kids.length<4611686018427387904∧(-9223372036854775808≤mn∧mn<9223372036854775808)∧(-9223372036854775808≤mx∧mx<9223372036854775808)∧XDO kids
def XDO:List Nd→Prop
 | []=>True
 | n::ns=>fit n∧XDO ns
end
theorem XGI:∀ {ns:List Nd} {i:Nat} {n:Nd},XDO ns→ns[i]?=some n→fit n:=by
 intro ns
 induction ns with
 | nil=>intro i n _ h;simp at h
 | cons x ns ih =>
  intro i n h e
  rw [XDO]at h
  cases i with
  | zero=>simp at e;subst e;exact h.1
  | succ i=>exact ih h.2 (by simpa using e)
theorem X92:∀ {ns:List Nd} {i:Nat} {n:Nd},ns[i]?=some n→size n≤X1c ns:=by
 intro ns
 induction ns with
 | nil=>intro i n h;simp at h
 | cons x ns ih =>
  intro i n e
  rw [X1c]
  cases i with
  | zero=>simp at e;subst e;omega
  | succ i=>have:=ih (i:=i) (n:=n) (by simpa using e);omega
theorem X1x {k:Int} {set:List (Int×Int)} {no:Bool} {kids:List Nd} {mn mx:Int} {i:Nat} {n:Nd} (h:fit (.mk k set no kids mn mx)) (e:kids[i]?=some n):fit n:=by
 rw [fit]at h;exact XGI h.2.2.2.2 e
theorem X1Q {k:Int} {set:List (Int×Int)} {no:Bool} {kids:List Nd} {mn mx:Int} {i m:Nat} {n:Nd} (h:size (.mk k set no kids mn mx)≤m+1) (e:kids[i]?=some n):size n≤m:=by
 rw [size]at h;have:=X92 e;omega
theorem XBM (loc:Nd→Bool) (k:Int) (set:List (Int×Int)) (no:Bool) (kids:List Nd) (mn mx:Int) (d:Nat):Nfa.cnt loc (.mk k set no kids mn mx) d=if 40<d∨loc (.mk k set no kids mn mx)=false then 2001 else XCa loc kids d 1:=by rw [Nfa.cnt]
theorem XIy (loc:Nd→Bool):∀ (ks:List Nd) (d all:Nat),all≤2001→XCa loc ks d all≤2001:=by
 intro ks
 induction ks with
 | nil=>intro d all h;rw [XCa];exact h
 | cons k ks ih =>
  intro d all h
  rw [XCa];split
  · exact Nat.le_refl _
  · exact ih _ _ (by omega)
theorem XLG (loc:Nd→Bool) (n:Nd) (d:Nat):Nfa.cnt loc n d≤2001:=by
 cases n;rw [Nfa.cnt];split
 · exact Nat.le_refl _
 · exact XIy _ _ _ _ (by omega)
theorem XDP {set:List (Int×Int)} {i:Nat} {r:Int×Int} (h:set[i]?=some r):(set.flatMap X0K)[((i:Nat):Int).toNat*2+0]?=some (.int .i32 r.1):=by
 have:=congrArg (fun l=>l[0]?) (XGG h)
 simpa[List.getElem?_take,List.getElem?_drop]using this
theorem XDQ {set:List (Int×Int)} {i:Nat} {r:Int×Int} (h:set[i]?=some r):(set.flatMap X0K)[((i:Nat):Int).toNat*2+1]?=some (.int .i32 r.2):=by
 have:=congrArg (fun l=>l[1]?) (XGG h)
 simpa[List.getElem?_take,List.getElem?_drop]using this
def K14:X2s:=⟨2,3,4,5,6,7,by decide⟩
mutual
def XBN:Nd→Bool
 | .mk k set no kids mn mx=>X39 kids && X16 (.mk k set no kids mn mx)
def X39:List Nd→Bool
 | []=>true
 | n::ns=>XBN n && X39 ns
end
theorem X0D {k:Int} {set:List (Int×Int)} {no:Bool} {kids:List Nd} {mn mx:Int} {i:Nat} {n:Nd} (h:X0H X16 (.mk k set no kids mn mx)) (e:kids[i]?=some n):X0H X16 n:=by
 rw [X0H]at h
 have key:∀ {ns:List Nd} {i:Nat},X0i X16 ns→ns[i]?=some n→X0H X16 n:=by
  intro ns
  induction ns with
  | nil=>intro i _ e;simp at e
  | cons x ns ih =>
   intro i h e
   rw [X0i]at h
   cases i with
   | zero=>simp at e;subst e;exact h.1
   | succ i=>exact ih h.2 (by simpa using e)
 exact key h.2 e
theorem X5T:∀ ns:List Nd,ns.length≤X1c ns
 | []=>by simp [X1c]
 | n::ns=>by have:=X5T ns;have:=X3D n;rw [X1c,List.length_cons];omega
theorem X4G {k:Int} {set:List (Int×Int)} {no:Bool} {kids:List Nd} {mn mx:Int}:kids.length<size (.mk k set no kids mn mx):=by
 have:=X5T kids;rw [size];omega
theorem XIz (k:Int) (set:List (Int×Int)) (no:Bool) (kids:List Nd) (mn mx:Int):size (.mk k set no kids mn mx)=1+X1c kids:=by rw [size]
theorem XJ0 (k:Int) (set:List (Int×Int)) (no:Bool) (kids:List Nd) (mn mx:Int):X77 (.mk k set no kids mn mx)=X45 kids+1:=by rw [X77]
mutual
theorem XDR:∀ n:Nd,X77 n≤size n
 | .mk k set no kids mn mx=>by have:=X4x kids;rw [X77,size];omega
theorem X4x:∀ ns:List Nd,X45 ns≤X1c ns
 | []=>by simp [X45]
 | n::ns=>by have:=XDR n;have:=X4x ns;rw [X45,X1c];omega
end
theorem XLH (K:X2s) (c:Nat) (n:Nd):wp K c n≤c:=by cases n;rw [wp];omega
theorem XBO {a b A B:Int} (h0:0≤a) (h1:a≤A) (h2:0≤b) (h3:b≤B):0≤a*b∧a*b≤A*B :=
 ⟨Int.mul_nonneg h0 h2,Int.mul_le_mul h1 h3 h2 (Int.le_trans h0 h1)⟩
theorem X4y {set:List (Int×Int)} {no:Bool} {kids:List Nd} {mn mx:Int} (h:X0H X16 (.mk 5 set no kids mn mx)):0≤mn∧mn≤9∧mx≤9∧(mx = -1∨mn≤mx):=by
 rw [X0H]at h
 have h:=h.1
 simp [X16,X4X]at h
 omega
theorem X29 {k:Int} {set:List (Int×Int)} {no:Bool} {kids:List Nd} {mn mx:Int} (h:X0H X16 (.mk k set no kids mn mx)):k=2∨k=3∨k=4∨k=5∨k=6∨k=7:=by
 rw [X0H]at h
 have h:=h.1
 simp only [X16,X4X,Bool.and_eq_true]at h
 have h:=h.2
 split at h
 · omega
 ·
  split at h
  · omega
  ·
   split at h
   · omega
   ·
    split at h
    · omega
    · cases h
theorem XAP (K:X2s) (c:Nat) (k:Int) (set:List (Int×Int)) (no:Bool) (kids:List Nd) (mn mx:Int):wp K c (.mk k set no kids mn mx)=min (if k=K.cat then wpL K c kids 0 else if k=K.alt then wpL K c kids 0+1 else if k=K.rep then wpL K c kids 0*(if mx<0 then mn+1 else mx).toNat+1 else 1) c:=by rw [wp]
theorem XGJ (K:X2s) (c:Nat) (k:Int) (set:List (Int×Int)) (no:Bool) (kids:List Nd) (mn mx:Int):wr K c (.mk k set no kids mn mx)=if k=K.cat then wrL K c kids 0 else if k=K.alt then wrL K c kids 0+1 else if k=K.rep then min (wrL K c kids 0*(if mx<0 then mn+1 else mx).toNat+1) c else 1:=by rw [wr]
theorem X4H (K:X2s) (c w:Nat):wpL K c [] w=w:=by rw [wpL]
theorem X6C (K:X2s) (c w:Nat):wrL K c [] w=w:=by rw [wrL]
theorem XLI (K:X2s) (c:Nat):∀ (ks:List Nd) (w:Nat),w≤c→wrL K c ks w≤c:=by
 intro ks
 induction ks with
 | nil=>intro w h;rw [wrL];exact h
 | cons k ks ih=>intro w h;rw [wrL];exact ih _ (Nat.min_le_right _ _)
theorem wr_le (K:X2s) (c:Nat) (n:Nd) (hc:1≤c):wr K c n≤c+1:=by
 cases n;rename_i k set no kids mn mx
 rw [wr]
 have:=XLI K c kids 0 (Nat.zero_le _)
 split
 · omega
 ·
  split
  · omega
  · split<;>omega
theorem X6D {w:Nat} {t:Int} (h:0≤t):((w*t.toNat:Nat):Int)=(w:Int)*t:=by rw [Int.natCast_mul,Int.toNat_of_nonneg h]
theorem X2U {x:Int×Int} {xs:List (Int×Int)} {no:Bool} {r:Int}:X2J (x::xs) no r=if (decide (x.1≤r) && decide (r≤x.2))=true then !no else X2J xs no r:=by
 unfold X2J
 rw [List.any_cons]
 cases h:(decide (x.1≤r) && decide (r≤x.2))with
 | true=>rw [Bool.true_or,if_pos rfl,if_pos rfl]
 | false=>rw [Bool.false_or,if_neg (by simp:¬ false=true)]
theorem XHw {k:Int} {set:List (Int×Int)} {no:Bool} {kids:List Nd} {mn mx t C:Int} {w c:Nat} (hk:k=5) (hr:wrL K14 c kids 0=w) (ht:t=if mx<0 then mn+1 else mx) (h0:0≤t) (hc:C=(c:Int)) :
  D.int .i64 (min ((w:Int)*t+1) C)=.int .i64 ((wr K14 c (.mk k set no kids mn mx):Nat):Int):=by
 subst hk hc
 congr 1
 rw [XGJ,hr]
 have e:=X6D (w:=w) (t:=t) h0
 rw [← ht]
 simp only [K14,reduceIte,Int.reduceEq]
 omega
theorem XLJ {k:Int} {set:List (Int×Int)} {no:Bool} {kids:List Nd} {mn mx:Int} {w c:Nat} (hk:k=3) (hr:wrL K14 c kids 0=w):D.int .i64 (w:Int)=.int .i64 ((wr K14 c (.mk k set no kids mn mx):Nat):Int):=by
 subst hk;congr 1;rw [XGJ,hr];simp only [K14,reduceIte]
theorem XLK {k:Int} {set:List (Int×Int)} {no:Bool} {kids:List Nd} {mn mx:Int} {w c:Nat} (hk:k=4) (hr:wrL K14 c kids 0=w):D.int .i64 ((w+1:Nat):Int)=.int .i64 ((wr K14 c (.mk k set no kids mn mx):Nat):Int):=by
 subst hk;congr 1;rw [XGJ,hr];simp only [K14,reduceIte,Int.reduceEq]
theorem XLL {k:Int} {set:List (Int×Int)} {no:Bool} {kids:List Nd} {mn mx:Int} {c:Nat} (h3:¬ k=3) (h4:¬ k=4) (h5:¬ k=5):D.int .i64 1=.int .i64 ((wr K14 c (.mk k set no kids mn mx):Nat):Int):=by
 congr 1;rw [XGJ];simp only [K14,h3,h4,h5,reduceIte];rfl
end
end Go.Vai
namespace Go.Vai
open Go.Nfa
abbrev D.vI (l:List Int):D:=.sl 1 l.length (l.map (D.int .i32))
abbrev D.vN (l:List Nat):D:=.sl 1 l.length (l.map X0h)
abbrev cN (k:Int) (set:List (Int×Int)) (no:Bool) (kids:List Nd) (mn mx:Int):List D:=[.int .i64 k,.sl 2 set.length (set.flatMap X0K),.bool no,.sl 6 kids.length (X0G kids),.int .i64 mn,.int .i64 mx]
end Go.Vai
namespace Go.Vai
open Go.Nfa
noncomputable section
theorem XBP {a b:List Bool} {i:Nat} (hab:a.length=b.length) (hi:i<a.length):(Nfa.X2I a b)[i]?=some (a.getD i false || b.getD i false):=by
 unfold Nfa.X2I
 rw [List.getElem?_zipWith,getD_some (d:=false) hi,getD_some (d:=false) (hab ▸ hi)]
theorem X93 {a b:List Bool} {i:Nat} (hab:a.length=b.length) (hi:i<a.length):(decide (a.drop i=b.drop i))=(decide (a.getD i false=b.getD i false) && decide (a.drop (i+1)=b.drop (i+1))):=by
 have hb:i<b.length:=hab ▸ hi
 have h:a.drop i=b.drop i↔a.getD i false=b.getD i false∧a.drop (i+1)=b.drop (i+1):=by
  rw [List.drop_eq_getElem_cons hi,List.drop_eq_getElem_cons hb,List.cons.injEq,X4O (List.getElem?_eq_getElem hi),X4O (List.getElem?_eq_getElem hb)]
 rw [decide_eq_decide.2 h,Bool.decide_and]
theorem XJ1 {p q:Bool}:(bif p then(bif q then false else true)else(bif q then true else false))=decide (¬ p=q):=by cases p<;>cases q<;>rfl
theorem X89 {set:List (Int×Int)} {no:Bool} {kids:List Nd} {mn mx:Int} (h:X0H X16 (.mk 5 set no kids mn mx)):∃ x,kids[0]?=some x:=by
 rw [X0H]at h
 have h:=h.1
 simp [X16,X4X]at h
 exact⟨kids[0]'(by omega),List.getElem?_eq_getElem (by omega)⟩
mutual
theorem X6E:∀ n:Nd,X0H X16 n→Ok K14 n
 | .mk k set no kids mn mx,h=>by
  have hk:=X29 h
  have h0:=h
  rw [X0H]at h
  have hL:=XDS kids h.2
  have h1:=h.1
  simp only [X16,X4X,Bool.and_eq_true]at h1
  have h1:=h1.2
  unfold Ok
  simp only [K14]
  rcases hk with rfl | rfl | rfl | rfl | rfl | rfl
  · exact .inl rfl
  · exact .inr (.inr (.inr (.inl ⟨rfl,hL⟩)))
  ·
   refine .inr (.inr (.inr (.inr (.inl ⟨rfl,?_,hL⟩))))
   rintro rfl
   simp at h1
  ·
   obtain⟨q1,q2,q3,q4⟩:=X4y h0
   obtain⟨x,hx⟩:=X89 h0
   refine .inr (.inr (.inr (.inr (.inr ⟨rfl,q1,?_,?_,hL⟩))))
   · omega
   · rintro rfl;simp at hx
  · exact .inr (.inl rfl)
  · exact .inr (.inr (.inl rfl))
theorem XDS:∀ ns:List Nd,X0i X16 ns→OkL K14 ns
 | [],_=>by unfold OkL;trivial
 | n::ns,h=>by rw [X0i]at h;unfold OkL;exact⟨X6E n h.1,XDS ns h.2⟩
end
theorem X0k {l:List Int} {n:Nd} {b:List Bool} (h:X0H X16 n) (hb:b.length=l.length+1):(X0B K14 l n b).length=l.length+1:=(X4I K14 l n (X6E n h) b hb).1
theorem XGK (K:X2s) (l:List Int) (kind:Int) (set:List (Int×Int)) (no:Bool) (kids:List Nd) (mn mx:Int) (b:List Bool):X0B K l (.mk kind set no kids mn mx) b =
  if kind=K.set then shift l set no b
  else if kind=K.beg then(X1B l).set 0 (b.getD 0 false)
  else if kind=K.fin then(X1B l).set l.length (b.getD l.length false)
  else if kind=K.cat then X2K K l kids b
  else if kind=K.alt then X1y K l kids b (X1B l)
  else if kind=K.rep then X3X K l kids mn mx b
  else X1B l:=by rw [X0B]
theorem X94 {l:List Int} {set:List (Int×Int)} {no:Bool} {b:List Bool} {i:Nat} (h:i<l.length):(shift l set no b)[i+1]?=some (b.getD i false && X2J set no (l.getD i 0)):=by
 unfold shift
 rw [List.getElem?_map,List.getElem?_range (by omega)]
 simp only [Option.map_some,getD_some (d:=0) h]
theorem X4z {K:X2s} {l:List Int} {kids:List Nd} {x:Nd} {mn mx:Int} {b:List Bool} (h:kids[0]?=some x):X3X K l kids mn mx b=grow (X0B K l x) mx (l.length+2) mn (rep (X0B K l x) mn.toNat b) (Nfa.X2I (X1B l) (rep (X0B K l x) mn.toNat b)):=by
 cases kids with
 | nil=>simp at h
 | cons y ys=>simp at h;subst h;rw [X3X]
theorem XDT {f:List Bool→List Bool} {mx i:Int} {k:Nat} {x out:List Bool} (h:¬ (mx<0∨i<mx)):grow f mx k i x out=out:=by
 cases k with
 | zero=>rfl
 | succ k=>rw [grow,if_neg h]
theorem X95 {f:List Bool→List Bool} {mx i:Int} {k:Nat} {x out:List Bool} (hk:0<k) (h:mx<0∨i<mx) (e:Nfa.X2I out (f x)=out):grow f mx k i x out=out:=by
 obtain⟨k,rfl⟩:∃ j,k=j+1:=⟨k - 1,by omega⟩
 rw [grow,if_pos h,if_pos e]
theorem XDU {f:List Bool→List Bool} {mx i:Int} {k:Nat} {x out:List Bool} (hk:0<k) (h:mx<0∨i<mx) (e:¬ Nfa.X2I out (f x)=out):grow f mx k i x out=grow f mx (k - 1) (i+1) (f x) (Nfa.X2I out (f x)):=by
 obtain⟨k,rfl⟩:∃ j,k=j+1:=⟨k - 1,by omega⟩
 rw [grow,if_pos h,if_neg e];rfl
theorem X1W (l:List Int) (kind:Int) (set:List (Int×Int)) (no:Bool) (kids:List Nd) (mn mx:Int) (b:List Bool):X0B K14 l (.mk kind set no kids mn mx) b =
  if kind=2 then shift l set no b
  else if kind=6 then(X1B l).set 0 (b.getD 0 false)
  else if kind=7 then(X1B l).set l.length (b.getD l.length false)
  else if kind=3 then X2K K14 l kids b
  else if kind=4 then X1y K14 l kids b (X1B l)
  else if kind=5 then X3X K14 l kids mn mx b
  else X1B l:=by rw [XGK];rfl
def XJ2 (b:List Bool):List Nat:=(List.range b.length).filter fun j=>b.getD j false
theorem X96 {b:List Bool} {i:Nat}:(List.range (i+1)).filter (fun j=>b.getD j false)=(List.range i).filter (fun j=>b.getD j false)++(if b.getD i false=true then[i]else[]):=by
 rw [List.range_succ,List.filter_append]
 congr 1
 cases h:b.getD i false<;>simp [List.filter,h,-List.getD_eq_getElem?_getD]
def X0S (l:List Int) (n:Nd) (at_:Int):List Nat:=if at_<0∨(l.length:Int)<at_ then[]else XJ2 (X0B K14 l n (only l at_.toNat))
theorem X3T {l:List Int} {n:Nd} {at_:Int} (h:at_<0∨(l.length:Int)<at_):X0S l n at_=[]:=if_pos h
theorem X8A {l:List Int} {n:Nd} {at_:Int} (h:¬ (at_<0∨(l.length:Int)<at_)):X0S l n at_=XJ2 (X0B K14 l n (only l at_.toNat)):=if_neg h
theorem X5p {l:List Int} {i:Nat}:(only l i).length=l.length+1:=by simp [only,X1B]
end
end Go.Vai

/-
  What is proved here: a machine's states as data; how many states a pattern needs; small laws of the way machines are buil small laws of the way machines are built, as the walks ask for them (part NK). what a pattern's making into a machine answers, in plain terms (part NN). what the search's parts come to, in plain terms (part NO). nothing; a short name for a machine's box (part RTb). No conditions but those that the theorems state.
-/
import Derived.Test.YtiebldaihnbkmaaGreatDoorNA
import Derived.Test.YtiebldaihnbkmaaGreatDoorPureNfa3
set_option linter.unusedVariables false
set_option linter.unusedSimpArgs false
namespace Go.Vai
open Go.Nfa
noncomputable section
abbrev XFa:D:=.lit (.slice none 0 0)
def X03:Sta→List D
 | .takes set no x=>[.int .i64 1,.int .i64 2,.sl 2 set.length (set.flatMap X0s),.bool no,.sl 6 0 [],.int .i64 0,.int .i64 0,.int .i64 (x:Int),.int .i64 0]
 | .splits x y=>[.int .i64 2,.int .i64 0,XFa,.bool false,XFa,.int .i64 0,.int .i64 0,.int .i64 (x:Int),.int .i64 (y:Int)]
 | .begins x=>[.int .i64 3,.int .i64 0,XFa,.bool false,XFa,.int .i64 0,.int .i64 0,.int .i64 (x:Int),.int .i64 0]
 | .ends x=>[.int .i64 4,.int .i64 0,XFa,.bool false,XFa,.int .i64 0,.int .i64 0,.int .i64 (x:Int),.int .i64 0]
 | .done=>[.int .i64 5,.int .i64 0,XFa,.bool false,XFa,.int .i64 0,.int .i64 0,.int .i64 0,.int .i64 0]
theorem X0Q (s:Sta):(X03 s).length=9:=by cases s<;>rfl
theorem XE2 {k:Int} {set:List (Int×Int)} {no:Bool} {kids:List Nd} {mn mx:Int} (hl:X0L X16 (.mk k set no kids mn mx)) (hk:k=2) :
  D.agg [.int .i64 k,.sl 2 set.length (set.flatMap X0s),.bool no,.sl 6 kids.length (X0R kids),.int .i64 mn,.int .i64 mx]=.agg [.int .i64 2,.sl 2 set.length (set.flatMap X0s),.bool no,.sl 6 0 [],.int .i64 0,.int .i64 0]:=by
 subst hk
 rw [X0L]at hl
 have h:=hl.1
 simp [X16,X2Q,X3o]at h
 obtain⟨⟨rfl,rfl⟩,⟨rfl,_⟩,_⟩:=h
 rfl
theorem X1a (kind:Int) (set:List (Int×Int)) (no:Bool) (kids:List Nd) (mn mx:Int) (L:List Sta) (next:Nat):build K14 (.mk kind set no kids mn mx) L next =
  if kind=2 then(L++[.takes set no next],L.length)
  else if kind=6 then(L++[.begins next],L.length)
  else if kind=7 then(L++[.ends next],L.length)
  else if kind=3 then X0Y K14 kids L next
  else if kind=4 then X1N K14 kids L next
  else if kind=5 then X15 K14 kids mn mx L next
  else(L,next):=by rw [build];rfl
theorem X7B (kind:Int) (set:List (Int×Int)) (no:Bool) (kids:List Nd) (mn mx:Int):wt K14 (.mk kind set no kids mn mx) =
  if kind=3 then wtL K14 kids else if kind=4 then wtL K14 kids+1 else if kind=5 then wtL K14 kids*(if mx<0 then mn+1 else mx).toNat+1 else 1:=by rw [wt];rfl
theorem XA7 {f:List Sta×Nat→List Sta×Nat} {W:Nat} (h:∀ r,(f r).1.length≤r.1.length+W):∀ (c:Nat) (r:List Sta×Nat),((List.range c).foldl (fun r _=>f r) r).1.length≤r.1.length+c*W:=by
 intro c
 induction c with
 | zero=>intro r;simp
 | succ c ih =>
  intro r
  rw [List.range_succ,List.foldl_append]
  simp only [List.foldl_cons,List.foldl_nil]
  have h1:=ih r
  have h2:=h ((List.range c).foldl (fun r _=>f r) r)
  have e:(c+1)*W=c*W+W:=by rw [Nat.add_mul];omega
  omega
theorem X6b {α:Type} (f:α→α) (c:Nat) (r:α):(List.range (c+1)).foldl (fun r _=>f r) r=f ((List.range c).foldl (fun r _=>f r) r):=by
 rw [List.range_succ,List.foldl_append];rfl
def X7C (b:List Sta→Nat→List Sta×Nat) (mx:Int) (L:List Sta) (next:Nat):List Sta×Nat:=if mx<0 then((b (L++[.splits 0 next]) L.length).1.set L.length (.splits (b (L++[.splits 0 next]) L.length).2 next),L.length)else(L,next)
def XDr (b:List Sta→Nat→List Sta×Nat) (out:Nat) (r:List Sta×Nat):List Sta×Nat:=((b r.1 r.2).1++[.splits (b r.1 r.2).2 out],(b r.1 r.2).1.length)
def XFb (b:List Sta→Nat→List Sta×Nat) (r:List Sta×Nat):List Sta×Nat:=b r.1 r.2
theorem X3q {x:Nd} {kids:List Nd} {mn mx:Int} {L:List Sta} {next:Nat} (h:kids[0]?=some x):X15 K14 kids mn mx L next =
  (List.range mn.toNat).foldl (fun r _=>XFb (build K14 x) r) ((List.range (mx - mn).toNat).foldl (fun r _=>XDr (build K14 x) (X7C (build K14 x) mx L next).2 r) (X7C (build K14 x) mx L next)):=by
 cases kids with
 | nil=>simp at h
 | cons y ys =>
  simp at h;subst h
  rw [X15]
  unfold X7C XDr XFb
  split<;>rfl
theorem XGA {b:List Sta→Nat→List Sta×Nat} {w:Nat} {mn mx:Int} (hb:∀ L next,(b L next).1.length+1≤L.length+10*w) (hm:0≤mn) (hx:mx = -1∨mn≤mx) (L:List Sta) (next:Nat) :
  ((List.range mn.toNat).foldl (fun r _=>XFb b r) ((List.range (mx - mn).toNat).foldl (fun r _=>XDr b (X7C b mx L next).2 r) (X7C b mx L next))).1.length≤L.length+10*(w*(if mx<0 then mn+1 else mx).toNat):=by
 have h2:=XA7 (f:=XFb b) (W:=10*w) (fun r=>by have:=hb r.1 r.2;unfold XFb;omega) mn.toNat ((List.range (mx - mn).toNat).foldl (fun r _=>XDr b (X7C b mx L next).2 r) (X7C b mx L next))
 have h1:=XA7 (f:=XDr b (X7C b mx L next).2) (W:=10*w) (fun r=>by have:=hb r.1 r.2;unfold XDr;simp;omega) (mx - mn).toNat (X7C b mx L next)
 by_cases h:mx<0
 ·
  rw [if_pos h]
  have h0:(X7C b mx L next).1.length≤L.length+10*w:=by
   unfold X7C;rw [if_pos h]
   have:=hb (L++[.splits 0 next]) L.length
   simp at this ⊢;omega
  have hz:(mx - mn).toNat=0:=by omega
  rw [hz]at h1
  have e:(mn+1).toNat=mn.toNat+1:=by omega
  rw [e]
  have e2:10*(w*(mn.toNat+1))=mn.toNat*(10*w)+10*w:=by rw [Nat.mul_add,Nat.mul_one,Nat.mul_add,← Nat.mul_assoc,Nat.mul_comm (10*w)]
  rw [hz]at h2 ⊢
  omega
 ·
  rw [if_neg h]
  have h0:(X7C b mx L next).1.length=L.length:=by unfold X7C;rw [if_neg h]
  have e:mx.toNat=(mx - mn).toNat+mn.toNat:=by omega
  have e2:10*(w*mx.toNat)=(mx - mn).toNat*(10*w)+mn.toNat*(10*w):=by rw [e,Nat.mul_add,Nat.mul_add,← Nat.mul_assoc,← Nat.mul_assoc,Nat.mul_comm (10*w),Nat.mul_comm (10*w)]
  omega
mutual
theorem X1E:∀ (n:Nd),X0L X16 n→∀ (L:List Sta) (next:Nat),(build K14 n L next).1.length+1≤L.length+10*wt K14 n
 | .mk k set no kids mn mx,h,L,next=>by
  have hk:=X1w h
  have h0:=h
  rw [X0L]at h
  have hL:=h.2
  have h1:=h.1
  simp only [X16,X3o,Bool.and_eq_true]at h1
  have h1:=h1.2
  rw [X1a,X7B]
  rcases hk with rfl | rfl | rfl | rfl | rfl | rfl
  · simp
  ·
   have:=X4s kids hL L next
   simp at h1
   simp only [reduceIte,Int.reduceEq];omega
  ·
   simp at h1
   cases kids with
   | nil=>simp at h1
   | cons x ns =>
    rw [X0V]at hL
    have a1:=X1E x hL.1 L next
    have a2:=X5N ns hL.2 next (build K14 x L next)
    simp only [reduceIte,Int.reduceEq]
    rw [X1N,wtL];omega
  ·
   obtain⟨q1,q2,q3,q4⟩:=X7A h0
   simp at h1
   cases kids with
   | nil=>simp at h1
   | cons x ns =>
    cases ns with
    | cons y ys=>simp at h1;omega
    | nil =>
     rw [X0V]at hL
     have a1:=XGA (b:=build K14 x) (w:=wt K14 x) (mn:=mn) (mx:=mx) (X1E x hL.1) q1 q4 L next
     simp only [reduceIte,Int.reduceEq]
     rw [X3q (x:=x) rfl,show wtL K14 [x]=wt K14 x by simp [wtL]];omega
  · simp
  · simp
theorem X4s:∀ (ns:List Nd),X0V X16 ns→∀ (L:List Sta) (next:Nat),(X0Y K14 ns L next).1.length+ns.length≤L.length+10*wtL K14 ns
 | [],_,L,next=>by simp [X0Y]
 | n::ns,h,L,next=>by
  rw [X0V]at h
  have a1:=X4s ns h.2 L next
  have a2:=X1E n h.1 (X0Y K14 ns L next).1 (X0Y K14 ns L next).2
  rw [X0Y,wtL,List.length_cons];omega
theorem X5N:∀ (ns:List Nd),X0V X16 ns→∀ (next:Nat) (r:List Sta×Nat),(X1C K14 ns next r).1.length≤r.1.length+10*wtL K14 ns
 | [],_,next,r=>by simp [X1C]
 | n::ns,h,next,r=>by
  rw [X0V]at h
  have a1:=X1E n h.1 r.1 next
  have a2:=X5N ns h.2 next ((build K14 n r.1 next).1++[.splits r.2 (build K14 n r.1 next).2],(build K14 n r.1 next).1.length)
  rw [List.length_append,List.length_singleton]at a2
  rw [X1C,wtL];omega
end
theorem X7y {n:Nd} (h:X0L X16 n) (L:List Sta) (next:Nat):∃ E,(build K14 n L next).1=L++E:=(X3N K14 [] n (X7w n h) L next).1
theorem XBt {ns:List Nd} {i:Nat} {n:Nd} (e:ns[i]?=some n):wt K14 n+wtL K14 (ns.drop (i+1))≤wtL K14 (ns.drop i):=by
 have hi:=(List.getElem?_eq_some_iff.1 e).1
 rw [List.drop_eq_getElem_cons hi,wtL]
 have:ns[i]=n:=(List.getElem?_eq_some_iff.1 e).2
 rw [this];omega
theorem XE3 {B:List Sta} {i x y z:Nat} (h:B[i]?=some (.splits z y)):(B.flatMap X03).take (i*9+7)++[D.int .i64 (x:Int)]++(B.flatMap X03).drop (i*9+7+1)=(B.set i (.splits x y)).flatMap X03:=by
 have hi:=(List.getElem?_eq_some_iff.1 h).1
 have e:B=B.take i++.splits z y::B.drop (i+1):=by
  have:=List.drop_eq_getElem_cons hi
  rw [(List.getElem?_eq_some_iff.1 h).2]at this
  rw [← this,List.take_append_drop]
 have hl:((B.take i).flatMap X03).length=i*9:=by rw [X5E X0Q,List.length_take,Nat.min_eq_left (by omega)]
 have e2:B.set i (.splits x y)=B.take i++.splits x y::B.drop (i+1):=by
  rw [List.set_eq_take_append_cons_drop,if_pos hi]
 rw [e2]
 conv=>lhs;rw [e]
 simp only [List.flatMap_append,List.flatMap_cons]
 generalize hA:(B.take i).flatMap X03=A at *
 generalize (B.drop (i+1)).flatMap X03=C
 have t1:(A++(X03 (.splits z y)++C)).take (i*9+7)=A++(X03 (.splits z y)).take 7:=by
  rw [List.take_append,hl,List.take_of_length_le (by omega),show i*9+7 - i*9=7 by omega,List.take_append_of_le_length (by rw [X0Q];omega)]
 have t2:(A++(X03 (.splits z y)++C)).drop (i*9+7+1)=(X03 (.splits z y)).drop 8++C:=by
  rw [List.drop_append,hl,List.drop_of_length_le (by omega),show i*9+7+1 - i*9=8 by omega,List.drop_append_of_le_length (by rw [X0Q];omega)];rfl
 rw [t1,t2]
 simp [X03]
end
end Go.Vai
namespace Go.Vai
open Go.Nfa
noncomputable section
def XE4 (first sz:Int) (R:List Sta×Nat):D→List Ob→Prop:=fun r L1=>∃ n1,R.1.length=n1∧r=.int .i64 ((R.2:Nat):Int)∧L1=[.box [.row 1 0 n1 n1,.int .i64 first,.int .i64 sz],.row 9 n1 (R.1.flatMap X03)]
theorem X2h {first sz:Int} {R S:List Sta×Nat} {q:Nat} (e:R=S) (h:S.1.length=q):XE4 first sz R (.int .i64 ((S.2:Nat):Int)) [.box [.row 1 0 q q,.int .i64 first,.int .i64 sz],.row 9 q (S.1.flatMap X03)]:=by subst e;exact⟨q,h,rfl,rfl⟩
theorem X2i {x:Nd} (h:X0L X16 x) (L:List Sta) (next:Nat):L.length≤(build K14 x L next).1.length:=by
 obtain⟨E,e⟩:=X7y h L next
 rw [e,List.length_append];omega
theorem XE5 {kids:List Nd} {i:Nat}:wtL K14 (kids.drop i)≤wtL K14 kids:=by
 induction kids generalizing i with
 | nil=>simp
 | cons x ns ih=>cases i with
  | zero=>exact Nat.le_refl _
  | succ i=>have:=ih (i:=i);rw [List.drop_succ_cons,wtL];omega
theorem XBu {c i W:Nat} (h:i<c):(c - i)*W=(c - (i+1))*W+W:=by
 rw [show c - i=(c - (i+1))+1 by omega,Nat.add_mul,Nat.one_mul]
theorem XBv {mn mx:Int} {W:Nat} (h0:0≤mn) (h1:mx = -1∨mn≤mx):(if mx<0 then mn+1 else mx).toNat*W=(if mx<0 then W else 0)+((mx - mn).toNat*W+mn.toNat*W):=by
 by_cases h:mx<0
 · rw [if_pos h,if_pos h,show(mx - mn).toNat=0 by omega,show(mn+1).toNat=mn.toNat+1 by omega,Nat.add_mul];omega
 · rw [if_neg h,if_neg h,show mx.toNat=(mx - mn).toNat+mn.toNat by omega,Nat.add_mul];omega
theorem XII {k:Int} {set:List (Int×Int)} {no:Bool} {kids:List Nd} {mn mx:Int} {x:Nd} (hl:X0L X16 (.mk k set no kids mn mx)) (hk:k=5) (e:kids[0]?=some x):wt K14 (.mk k set no kids mn mx)=(if mx<0 then mn+1 else mx).toNat*wt K14 x+1:=by
 subst hk
 have h:=hl
 rw [X0L]at h
 have h1:=h.1
 simp only [X16,X3o,Bool.and_eq_true]at h1
 have h1:=h1.2
 simp at h1
 have hlen:=h1.1.1.1.1
 cases kids with
 | nil=>simp at hlen
 | cons y ns=>cases ns with
  | cons z zs=>simp at hlen;omega
  | nil =>
   simp at e;subst e
   rw [X7B];simp only [reduceIte,Int.reduceEq]
   rw [show wtL K14 [y]=wt K14 y by simp [wtL],Nat.mul_comm]
theorem XAr {x:Nd} (hl:X0L X16 x) {L:List Sta} {s:Sta} {n next:Nat} (hn:L.length=n):(build K14 x (L++[s]) next).1[n]?=some s:=by
 obtain⟨E,h⟩:=X7y hl (L++[s]) next
 rw [h,List.append_assoc,List.getElem?_append_right (by omega),hn,Nat.sub_self];rfl
theorem XGB {kids ns:List Nd} {x:Nd} (h:kids=x::ns):D.sl 6 (kids.length - 1) (((X0R kids).drop (1*6)).take ((kids.length - 1)*6))=.sl 6 ns.length (X0R ns):=by
 subst h
 have hl:(X0R ns).length=ns.length*6:=by rw [X44,X5E X2L]
 rw [X0R,List.drop_append,List.drop_of_length_le (by rw [X2L];omega),X2L,List.nil_append,List.length_cons,Nat.add_sub_cancel]
 rw [show 1*6 - 6=0 from rfl,List.drop_zero,List.take_of_length_le (by omega)]
theorem XGC {α:Type} {l:List α} (h:2≤l.length):∃ x ns,l=x::ns:=by
 cases l with
 | nil=>simp at h
 | cons x ns=>exact⟨x,ns,rfl⟩
theorem XGD {k:Int} {set:List (Int×Int)} {no:Bool} {kids:List Nd} {mn mx:Int} (h:X0L X16 (.mk k set no kids mn mx)) (hk:k=3∨k=4):2≤kids.length:=by
 rw [X0L]at h
 have h:=h.1
 simp only [X16,X3o,Bool.and_eq_true]at h
 have h:=h.2
 rcases hk with rfl | rfl<;>simp at h<;>omega
end
end Go.Vai
namespace Go.Vai
open Go.Nfa
noncomputable section
def XE6 (N:Nd):D→List Ob→Prop:=fun r L1 =>
 (Nfa.cnt X16 N 1≤2000∧wp K14 20001 N≤20000∧∃ n1,(X0x K14 N).1.length=n1∧r=.tup [.loc 1 0,.int .i64 0] ∧
  L1=[.box (X43 N),.box [.sl 9 n1 ((X0x K14 N).1.flatMap X03),.int .i64 (((X0x K14 N).2:Nat):Int),.int .i64 ((wp K14 20001 N:Nat):Int)],.dead]) ∨
 (Nfa.cnt X16 N 1≤2000∧¬ wp K14 20001 N≤20000∧r=.tup [.lit (.pointer none),.int .i64 3]∧L1=[]) ∨
 (¬ Nfa.cnt X16 N 1≤2000∧r=.tup [.lit (.pointer none),.int .i64 5]∧L1=[])
theorem XBw {N:Nd} (h:¬ Nfa.cnt X16 N 1≤2000):XE6 N (.tup [.lit (.pointer none),.int .i64 5]) []:=.inr (.inr ⟨h,rfl,rfl⟩)
theorem XAs {N:Nd} (h:Nfa.cnt X16 N 1≤2000) (h2:(20000:Int)<((wp K14 20001 N:Nat):Int)):XE6 N (.tup [.lit (.pointer none),.int .i64 3]) []:=.inr (.inl ⟨by omega,by omega,rfl,rfl⟩)
theorem XE7 {k:Int} {set:List (Int×Int)} {no:Bool} {kids:List Nd} {mn mx:Int} {n1:Nat} (h:Nfa.cnt X16 (.mk k set no kids mn mx) 1≤2000) (h2:¬ (20000:Int)<((wp K14 20001 (.mk k set no kids mn mx):Nat):Int)) (hn:(build K14 (.mk k set no kids mn mx) ([]++[Sta.done]) 0).1.length=n1) :
  XE6 (.mk k set no kids mn mx) (.tup [.loc 1 0,.int .i64 0]) [.box [.int .i64 k,.sl 2 set.length (set.flatMap X0s),.bool no,.sl 6 kids.length (X0R kids),.int .i64 mn,.int .i64 mx],.box [.sl 9 n1 ((build K14 (.mk k set no kids mn mx) ([]++[Sta.done]) 0).1.flatMap X03),.int .i64 (((build K14 (.mk k set no kids mn mx) ([]++[Sta.done]) 0).2:Nat):Int),.int .i64 ((wp K14 20001 (.mk k set no kids mn mx):Nat):Int)],.dead] :=
 .inl ⟨by omega,by omega,n1,hn,rfl,by rw [X43];rfl⟩
theorem XBx {N:Nd} (h:Nfa.cnt X16 N 1≤2000):size N≤2000∧X0L X16 N:=by
 have:=(Nfa.XAG X16 N 1).2 (by omega)
 exact⟨this.2.1,this.2.2⟩
theorem XE8 {N:Nd} (h:¬ (20000:Int)<((wp K14 20001 N:Nat):Int)):wt K14 N≤20000:=by
 have:=XEa K14 20001 N
 omega
end
end Go.Vai
namespace Go.Vai
open Go.Nfa
noncomputable section
def tbl (S:List Sta) (l:List Int) (at_ n nn:Nat) (first sz:Int) (seen:List Int) (now:List Nat):List Ob :=
 [.box [.loc 1 0,.sl 1 l.length (l.map (D.int .i32)),.int .i64 ((at_:Nat):Int),.row 2 0 n n,.row 3 0 nn nn],.box [.sl 9 n (S.flatMap X03),.int .i64 first,.int .i64 sz],.row 1 n (seen.map (D.int .i64)),.row 1 nn (now.map X0e)]
def entQ (S:List Sta) (l:List Int) (at_ n:Nat) (first sz:Int) (X0:Nat→Prop) (s:Nat) (seen0:List Int):D→List Ob→Prop:=fun r L1=>∃ seen now nn,r=.tup [] ∧
 (Nfa.Ent S l.length at_ (fun x=>X0 x∨x=s) seen now []∧seen[s]?=some ((at_:Int)+1)∧(∀ t:Nat,seen0[t]?=some ((at_:Int)+1)→seen[t]?=some ((at_:Int)+1))∧(∀ (t:Nat) v,seen[t]?=some v→v≤(at_:Int)+1)∧now.length+unm at_ seen≤S.length) ∧
 now.length=nn∧seen.length=n∧L1=tbl S l at_ n nn first sz seen now
theorem XGE {S:List Sta} {l:List Int} {at_ n q nn:Nat} {first sz:Int} {X0:Nat→Prop} {s:Nat} {seen0 seen:List Int} {now todo:List Nat} (h:EI S l.length at_ X0 s seen0 seen now todo) (hq:todo.length=q) (h0:¬ (0:Int)<((q:Nat):Int)) (hnn:now.length=nn) (hsl:seen.length=n) :
  entQ S l at_ n first sz X0 s seen0 (.tup []) (tbl S l at_ n nn first sz seen now):=by
 have:todo=[]:=List.length_eq_zero_iff.1 (by omega)
 subst this
 exact⟨seen,now,nn,rfl,⟨h.done.1,h.done.2,h.mono,h.le,h.nb⟩,hnn,hsl,rfl⟩
theorem XGF {α:Type} {l:List α} {q:Nat} (h:l.length=q) (h0:0<q):∃ td x,l=td++[x]∧td.length+1=q:=by
 rcases List.eq_nil_or_concat l with rfl | ⟨td,x,rfl⟩
 · simp at h;omega
 · exact⟨td,x,by simp,by simpa using h⟩
theorem XIJ {todo td rest:List Nat} {x q:Nat} (h:todo=td++[x]) (hq:td.length+1=q):D.int .i64 ((((todo++rest).getD (q - 1) 0:Nat)):Int)=.int .i64 ((x:Nat):Int):=by
 subst h hq
 congr 2
 rw [List.getD_eq_getElem?_getD,Nat.add_sub_cancel,List.append_assoc,List.getElem?_append_right (Nat.le_refl _),Nat.sub_self];rfl
theorem XGG {todo td rest:List Nat} {x:Nat} (h:todo=td++[x]):(todo++rest).map X0e=(td++([x]++rest)).map X0e:=by rw [h,List.append_assoc]
theorem XBy {S:List Sta} {x:Nat} (h:x<S.length):∃ σ,S[x]?=some σ:=⟨_,List.getElem?_eq_getElem h⟩
end
end Go.Vai
namespace Go.Vai
open Go.Nfa
abbrev Ob.pN (N:Nd) (n1:Nat):Ob:=.box [.sl 9 n1 ((X0x K14 N).1.flatMap X03),.int .i64 (((X0x K14 N).2:Nat):Int),.int .i64 ((wp K14 20001 N:Nat):Int)]
end Go.Vai

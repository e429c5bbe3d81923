/-
  What is proved here: a pattern that is read from a text: its size, its parts; where a sign is in a row (part PGa). how the reading of a whole pattern ends (part PGb). No conditions but those that the theorems state.
-/
import Derived.Test.YtfcadnhoejlgoaaGreatDoorPA
import Derived.Test.YtfcadnhoejlgoaaGreatDoorNQ
import Derived.Test.YtfcadnhoejlgoaaGreatDoorUA
import Derived.Lib.ValidU
import Derived.Test.YtfcadnhoejlgoaaGreatDoorPEa
set_option linter.unusedVariables false
set_option linter.unusedSimpArgs false
namespace Go.Vai
open Go.Nfa Go.Utf
noncomputable section
theorem FnD.known1 {P:Program} {ov:Ov} {f:FuncId} {fn:List Value→X0A→Option (Value×X0A)} {s:ByteArray} {b:Bool} (hov:ov f=some fn) (hg:∀ h,fn [.string s] h=some (.bool b,h)):X1G P ov f [.str s] (.bool b):=by
 intro M g a vs ok old hlen nd hcl hobj hargs
 cases hargs with
 | cons h t =>
  cases t
  cases h
  refine Fn.known hov hg ⟨.bool b,[],g,CR.bool,hlen,Nat.le_refl _,nd,fun k hk=>⟨(hcl k hk).1,(hcl k hk).2,.inl hk⟩,hobj,X1g.refl _ _,ok,fun i b k cs e _=>e,fun i cs _ e=>⟨cs,e⟩,rfl,rfl⟩
def X6N (n:Nd):Bool:=decide (n.st.length≤1000001)
def Sm (X:Rdr):Prop:=∀ s b,s.length≤1000000→X0H X6N (X s b).1
theorem XGv:∀ (f:Nat) (l:List (Int×Int)) (s:List Int) (b:Bool),(X7g f l s b).1.length≤l.length+f:=by
 intro f
 induction f with
 | zero=>intro l s b;exact Nat.le_refl _
 | succ f ih =>
  intro l s b
  unfold X7g;split
  ·
   have:=ih (l++[((X0R s b).1,(hiM (X0R s b)).1)]) (hiM (X0R s b)).2.1 ((hiM (X0R s b)).2.2 || decide ((hiM (X0R s b)).1<(X0R s b).1))
   rw [List.length_append,List.length_singleton]at this;omega
  · simp
theorem X7C {k:Int} {l:List (Int×Int)} {no:Bool} {ks:List Nd} {a b:Int} (h:l.length≤1000001) (hk:X0j X6N ks):X0H X6N (.mk k l no ks a b):=by
 rw [X0H];exact⟨decide_eq_true h,hk⟩
theorem XJZ {alt:Rdr} (h:Sm alt):Sm (X1b alt):=by
 intro s b hs
 have t:=(X2f s b).length_le
 unfold X1b
 dsimp only
 split
 · exact h _ _ (by omega)
 ·
  split
  · exact X7C (by simp) trivial
  ·
   split
   · exact X7C (by simp) trivial
   ·
    split
    · exact X7C (by simp) trivial
    ·
     split
     · exact X7C (by simp) trivial
     ·
      split
      ·
       unfold X9P
       refine X7C ?_ trivial
       have h1:=XGv ((Nfa.isR 94 (tkM s b).2.1).length+1) [] (Nfa.isR 94 (tkM s b).2.1) (tkM s b).2.2
       have h2:=(XEO 94 (tkM s b).2.1).length_le
       simp only [List.length_nil]at h1
       omega
      · exact X7C (by simp) trivial
theorem XGw {atom:Rdr} (h:Sm atom):Sm (X2O atom):=by
 intro s b hs
 unfold X2O
 dsimp only
 split
 · exact X7C (by simp) ⟨h s b hs,trivial⟩
 · exact h s b hs
theorem X3Z {loc:Nd→Bool}:∀ {ks:List Nd} {n:Nd},X0j loc ks→X0H loc n→X0j loc (ks++[n])
 | [],n,_,h=>⟨h,trivial⟩
 | k::ks,n,h,hn=>⟨h.1,X3Z h.2 hn⟩
theorem XJa {piece:Rdr} (hl:Shr piece) (h:Sm piece):∀ (f:Nat) (ks:List Nd) (s:List Int) (b:Bool),s.length≤1000000→X0j X6N ks→X0j X6N (X6S piece f ks s b).1:=by
 intro f
 induction f with
 | zero=>intro ks s b _ hk;exact hk
 | succ f ih =>
  intro ks s b hs hk
  unfold X6S;split
  · exact ih _ _ _ (Nat.le_trans (hl s b).length_le hs) (X3Z hk (h s b hs))
  · exact hk
theorem XLi {k:Int} {ks:List Nd} (h:X0j X6N ks):X0H X6N (ofN k ks):=by
 unfold ofN
 split
 ·
  cases ks with
  | nil=>simp at *
  | cons n ns=>exact h.1
 · exact X7C (by simp) h
theorem XLj {piece:Rdr} (hl:Shr piece) (h:Sm piece):Sm (XCi piece):=by
 intro s b hs
 unfold XCi
 dsimp only
 split
 · exact X7C (by simp) trivial
 · exact XLi (XJa hl h _ _ _ _ hs trivial)
theorem XJb {row:Rdr} (hl:Shr row) (h:Sm row):∀ (f:Nat) (ks:List Nd) (s:List Int) (b:Bool),s.length≤1000000→X0j X6N ks→X0j X6N (X79 row f ks s b).1:=by
 intro f
 induction f with
 | zero=>intro ks s b _ hk;exact hk
 | succ f ih =>
  intro ks s b hs hk
  have ht:=(X6T s).length_le
  unfold X79;split
  · exact ih _ _ _ (Nat.le_trans (hl _ b).length_le (by omega)) (X3Z hk (h _ b (by omega)))
  · exact hk
theorem XLk {row:Rdr} (hl:Shr row) (h:Sm row):Sm (XFs row):=by
 intro s b hs
 unfold XFs
 exact XLi (XJb hl h _ _ _ _ (Nat.le_trans (hl s b).length_le hs) ⟨h s b hs,trivial⟩)
theorem XE5:∀ f,Sm (X3b f)
 | 0=>fun s b _=>X7C (by simp) trivial
 | f+1=>XLk (X6A f) (XLj (X6U f) (XGw (XJZ (XE5 f))))
mutual
theorem XIF:∀ (n:Nd),X0H X6N n→X0H X18 n→size n<1000000→fit n
 | .mk k set no kids mn mx,h1,h2,h3=>by
  have hs:set.length≤1000001:=of_decide_eq_true h1.1
  have hk:=X4J (k:=k) (set:=set) (no:=no) (kids:=kids) (mn:=mn) (mx:=mx)
  have hl:=h2.1
  simp only [X18,X2t,X4Y,Bool.and_eq_true,Bool.or_eq_true,decide_eq_true_eq]at hl
  rw [size]at h3
  rw [fit]
  refine⟨by omega,by rw [size]at hk;omega,?_,?_,XE6 kids h1.2 h2.2 (by omega)⟩
  ·
   rcases hl.1.2 with e | e
   ·
    subst e
    have:=hl.2
    simp only [Int.reduceEq,reduceIte,or_self,Bool.and_eq_true,Bool.or_eq_true,decide_eq_true_eq]at this
    omega
   · omega
  ·
   rcases hl.1.2 with e | e
   ·
    subst e
    have:=hl.2
    simp only [Int.reduceEq,reduceIte,or_self,Bool.and_eq_true,Bool.or_eq_true,decide_eq_true_eq]at this
    omega
   · omega
theorem XE6:∀ (ns:List Nd),X0j X6N ns→X0j X18 ns→X1f ns<1000000→XDZ ns
 | [],_,_,_=>trivial
 | n::ns,h1,h2,h3=>by
  rw [X1f]at h3
  exact⟨XIF n h1.1 h2.1 (by omega),XE6 ns h1.2 h2.2 (by omega)⟩
end
def X2j (s:ByteArray):Option Nd :=
 if 60<s.size∨Lib.validD s.data.toList=false∨(65533:Int)∈X4Z (X0b s)then none
 else if (X3b ((X4Z (X0b s)).length+1) (X4Z (X0b s)) false).2.2=true∨0<(X3b ((X4Z (X0b s)).length+1) (X4Z (X0b s)) false).2.1.length then none
 else some (X3b ((X4Z (X0b s)).length+1) (X4Z (X0b s)) false).1
theorem XE7 {s:ByteArray} (h:¬ (65533:Int)∈X4Z (X0b s)):okS (X4Z (X0b s)):=by
 intro r hr
 have h1:=XKb (X7m s) r hr
 have h2:¬ r=65533:=fun e=>h (e ▸ hr)
 simp only [X1z,X2a,Bool.and_eq_true,Bool.or_eq_true,decide_eq_true_eq]
 unfold X7l at h1
 exact⟨h1,h2⟩
theorem XJc:∀ (bs:List Nat) {q:Ust},okQ q→(∀ b∈bs,b<256)→(X7I q bs).1.length≤2*bs.length:=by
 intro bs
 induction bs with
 | nil=>intro q _ _;simp [X7I]
 | cons b bs ih =>
  intro q h hb
  have p:=XAo h (hb b (by simp))
  have i:=ih p.1 fun x hx=>hb x (by simp [hx])
  simp only [X7I,List.length_append,List.length_cons]
  omega
theorem XE8 (s:ByteArray):(X4Z (X0b s)).length≤2*s.size+1:=by
 have h:=XJc (X0b s) (XL4 0 0 0 0) (X7m s)
 have h2:=XFJ (X7I ⟨0,0,0,0,0⟩ (X0b s)).2
 have h3:(X0b s).length=s.size:=by simp [X0b]
 unfold X4Z
 rw [List.length_append]
 omega
theorem X7Z {s:ByteArray} {N:Nd} (h:X2j s=some N):fit N∧X0H X18 N∧size N≤241:=by
 unfold X2j at h
 split at h
 · cases h
 ·
  rename_i h1
  split at h
  · cases h
  ·
   rename_i h2
   cases h
   have hl:=XE8 s
   have hb:(X3b ((X4Z (X0b s)).length+1) (X4Z (X0b s)) false).2.2=false:=by
    cases e:(X3b ((X4Z (X0b s)).length+1) (X4Z (X0b s)) false).2.2 with
    | true=>exact absurd (.inl e) h2
    | false=>rfl
   have g:=X9R _ _ _ (XE7 fun e=>h1 (.inr (.inr e))) hb
   have hs:s.size≤60:=by
    by_cases e:60<s.size
    · exact absurd (.inl e) h1
    · omega
   have l2:=(XBX _).1 g.2.1
   refine⟨XIF _ (XE5 _ _ _ (by omega)) l2 (by omega),l2,by omega⟩
def ixF:List Int→Int→Nat→Int
 | [],_,_ => -1
 | x::xs,v,i=>if v=x then(i:Nat)else ixF xs v (i+1)
theorem XJd:∀ (l:List Int) (v:Int) (i:Nat),decide (0≤ixF l v i)=decide (v∈l):=by
 intro l
 induction l with
 | nil=>intro v i;simp [ixF]
 | cons x xs ih =>
  intro v i
  unfold ixF
  split
  · rename_i e;subst e;simp
  ·
   rename_i e
   rw [ih]
   congr 1
   simp [e]
end
end Go.Vai
namespace Go.Vai
open Go.Nfa Go.Utf
theorem XAR {s:ByteArray} (h:60<s.size∨Lib.validD s.data.toList=false∨(65533:Int)∈X4Z (X0b s)):X2j s=none:=by rw [X2j,if_pos h]
theorem XJe {s:ByteArray} {l:List Int} (hl:l=X4Z (X0b s)) (h1:¬ (60:Int)<((s.size:Nat):Int)) (h2:Lib.validD s.data.toList=true) (h3:¬ (65533:Int)∈l):¬ (60<s.size∨Lib.validD s.data.toList=false∨(65533:Int)∈X4Z (X0b s)):=by
 subst hl
 rintro(h | h | h)
 · omega
 · rw [h2]at h;cases h
 · exact h3 h
theorem XE9 {s:ByteArray} {l:List Int} (hl:l=X4Z (X0b s)) (h:(X3b (l.length+1) l false).2.2=true∨0<(X3b (l.length+1) l false).2.1.length):X2j s=none:=by
 subst hl
 unfold X2j;split
 · rfl
 · first | rfl | rw [if_pos h]
theorem XJf {s:ByteArray} {l:List Int} (hl:l=X4Z (X0b s)) (hn:¬ (60<s.size∨Lib.validD s.data.toList=false∨(65533:Int)∈X4Z (X0b s))) (h:(X3b (l.length+1) l false).2.2=false) (h2:¬ 0<(X3b (l.length+1) l false).2.1.length):X2j s=some (X3b (l.length+1) l false).1:=by
 subst hl
 rw [X2j,if_neg hn,if_neg (by rw [h];simp only [Bool.false_eq_true,false_or];exact h2)]
def XIG (s:ByteArray) (r:D):Prop:=(X2j s=none∧r=.tup [.agg (X11 X8I),.int .i64 5])∨∃ N,X2j s=some N∧r=.tup [.agg (X11 N),.int .i64 0]
theorem q_rem {k:IntKind} {m n:Nat} (h:0<n):X9o .rem (.int k (m:Int)) (.int k (n:Int))=some (.int k ((m % n:Nat):Int)):=by
 have hk:kEq k k=true:=by cases k<;>rfl
 have e1:Nat.blt 0 n=true:=by simpa using h
 show(match kEq k k with | true=>XDH .rem k (Int.ofNat m) (Int.ofNat n) | false=>none)=_
 rw [hk]
 simp only [XDH,XL5,e1]
 rfl
theorem XLl {N:Nd} (h1:X78 N≤14) (h2:size N≤241) (h3:X0H X18 N):Nfa.cnt X18 N 1≤2000:=by
 have:=(Nfa.XBh X18 N 1).1 ⟨by omega,by omega,h3⟩
 omega
end Go.Vai
namespace Go.Proofs.YtfcadnhoejlgoaaGreatDoor
open Go.Vai Go.Nfa Go.Utf
theorem XGx (s:ByteArray) (hs:s.size≤1000000):X1G P ov 52 [.str s] (.bool (Lib.validD s.data.toList)):=FnD.known1 (fn:=XLR) rfl (fun _=>by simp only [XLR];rw [decide_eq_true (by omega)])
theorem XEA (s:ByteArray) (hs:s.size≤1000000):FnD P ov 51 [.str s] [] (fun r L1=>(fun r=>∃ l,l=X4Z (X0b s)∧r=.sl 1 l.length (l.map (D.int .i32))) r∧L1=[]) :=
 (XFL s hs).mono fun d L' h=>⟨⟨_,rfl,h.1⟩,h.2⟩
theorem XGy (s:ByteArray) (c:Nat):FnD P ov 26 [.str s,.int .i64 ((c:Nat):Int)] [] (fun r L1=>(fun r=>∃ t:ByteArray,t=s.extract 0 (min s.size c)∧t.size≤c∧r=.str t) r∧L1=[]) :=
 (XGk s c).mono fun d L' h=>⟨⟨_,rfl,by rw [ByteArray.size_extract];omega,h.1⟩,h.2⟩
end Go.Proofs.YtfcadnhoejlgoaaGreatDoor

/-
  What is proved here: a pattern that is read from a text: its size, its parts; where a sign is in a row (part PGa). how the reading of a whole pattern ends (part PGb). No conditions but those that the theorems state.
-/
import Derived.Test.YtiebldaihnbkmaaGreatDoorPA
import Derived.Test.YtiebldaihnbkmaaGreatDoorNQ
import Derived.Test.YtiebldaihnbkmaaGreatDoorUA
import Derived.Lib.ValidU
import Derived.Test.YtiebldaihnbkmaaGreatDoorPEa
set_option linter.unusedVariables false
set_option linter.unusedSimpArgs false
namespace Go.Vai
open Go.Nfa Go.Utf
noncomputable section
theorem FnD.known1 {P:Program} {ov:Ov} {f:FuncId} {fn:List Value→X0A→Option (Value×X0A)} {s:ByteArray} {b:Bool} (hov:ov f=some fn) (hg:∀ h,fn [.string s] h=some (.bool b,h)):X1Q P ov f [.str s] (.bool b):=by
 intro M g a vs ok old hlen nd hcl hobj hargs
 cases hargs with
 | cons h t =>
  cases t
  cases h
  refine Fn.known hov hg ⟨.bool b,[],g,CR.bool,hlen,Nat.le_refl _,nd,fun k hk=>⟨(hcl k hk).1,(hcl k hk).2,.inl hk⟩,hobj,X1e.refl _ _,ok,fun i b k cs e _=>e,fun i cs _ e=>⟨cs,e⟩,rfl,rfl⟩
def X5Q (n:Nd):Bool:=decide (n.st.length≤1000001)
def Sm (X:Rdr):Prop:=∀ s b,s.length≤1000000→X0L X5Q (X s b).1
theorem XEN:∀ (f:Nat) (l:List (Int×Int)) (s:List Int) (b:Bool),(X6n f l s b).1.length≤l.length+f:=by
 intro f
 induction f with
 | zero=>intro l s b;exact Nat.le_refl _
 | succ f ih =>
  intro l s b
  unfold X6n;split
  ·
   have:=ih (l++[((X0J s b).1,(hiM (X0J s b)).1)]) (hiM (X0J s b)).2.1 ((hiM (X0J s b)).2.2 || decide ((hiM (X0J s b)).1<(X0J s b).1))
   rw [List.length_append,List.length_singleton]at this;omega
  · simp
theorem X6I {k:Int} {l:List (Int×Int)} {no:Bool} {ks:List Nd} {a b:Int} (h:l.length≤1000001) (hk:X0V X5Q ks):X0L X5Q (.mk k l no ks a b):=by
 rw [X0L];exact⟨decide_eq_true h,hk⟩
theorem XGX {alt:Rdr} (h:Sm alt):Sm (X1A alt):=by
 intro s b hs
 have t:=(X2J s b).length_le
 unfold X1A
 dsimp only
 split
 · exact h _ _ (by omega)
 ·
  split
  · exact X6I (by simp) trivial
  ·
   split
   · exact X6I (by simp) trivial
   ·
    split
    · exact X6I (by simp) trivial
    ·
     split
     · exact X6I (by simp) trivial
     ·
      split
      ·
       unfold X8C
       refine X6I ?_ trivial
       have h1:=XEN ((Nfa.isR 94 (tkM s b).2.1).length+1) [] (Nfa.isR 94 (tkM s b).2.1) (tkM s b).2.2
       have h2:=(XCU 94 (tkM s b).2.1).length_le
       simp only [List.length_nil]at h1
       omega
      · exact X6I (by simp) trivial
theorem XEO {atom:Rdr} (h:Sm atom):Sm (X1T atom):=by
 intro s b hs
 unfold X1T
 dsimp only
 split
 · exact X6I (by simp) ⟨h s b hs,trivial⟩
 · exact h s b hs
theorem X37 {loc:Nd→Bool}:∀ {ks:List Nd} {n:Nd},X0V loc ks→X0L loc n→X0V loc (ks++[n])
 | [],n,_,h=>⟨h,trivial⟩
 | k::ks,n,h,hn=>⟨h.1,X37 h.2 hn⟩
theorem XGY {piece:Rdr} (hl:Shr piece) (h:Sm piece):∀ (f:Nat) (ks:List Nd) (s:List Int) (b:Bool),s.length≤1000000→X0V X5Q ks→X0V X5Q (X4z piece f ks s b).1:=by
 intro f
 induction f with
 | zero=>intro ks s b _ hk;exact hk
 | succ f ih =>
  intro ks s b hs hk
  unfold X4z;split
  · exact ih _ _ _ (Nat.le_trans (hl s b).length_le hs) (X37 hk (h s b hs))
  · exact hk
theorem XIV {k:Int} {ks:List Nd} (h:X0V X5Q ks):X0L X5Q (ofN k ks):=by
 unfold ofN
 split
 ·
  cases ks with
  | nil=>simp at *
  | cons n ns=>exact h.1
 · exact X6I (by simp) h
theorem XIW {piece:Rdr} (hl:Shr piece) (h:Sm piece):Sm (X94 piece):=by
 intro s b hs
 unfold X94
 dsimp only
 split
 · exact X6I (by simp) trivial
 · exact XIV (XGY hl h _ _ _ _ hs trivial)
theorem XGZ {row:Rdr} (hl:Shr row) (h:Sm row):∀ (f:Nat) (ks:List Nd) (s:List Int) (b:Bool),s.length≤1000000→X0V X5Q ks→X0V X5Q (X5Y row f ks s b).1:=by
 intro f
 induction f with
 | zero=>intro ks s b _ hk;exact hk
 | succ f ih =>
  intro ks s b hs hk
  have ht:=(X5Z s).length_le
  unfold X5Y;split
  · exact ih _ _ _ (Nat.le_trans (hl _ b).length_le (by omega)) (X37 hk (h _ b (by omega)))
  · exact hk
theorem XIX {row:Rdr} (hl:Shr row) (h:Sm row):Sm (XBj row):=by
 intro s b hs
 unfold XBj
 exact XIV (XGZ hl h _ _ _ _ (Nat.le_trans (hl s b).length_le hs) ⟨h s b hs,trivial⟩)
theorem XC9:∀ f,Sm (X2l f)
 | 0=>fun s b _=>X6I (by simp) trivial
 | f+1=>XIX (X9O f) (XIW (X5a f) (XEO (XGX (XC9 f))))
mutual
theorem XFe:∀ (n:Nd),X0L X5Q n→X0L X16 n→size n<1000000→fit n
 | .mk k set no kids mn mx,h1,h2,h3=>by
  have hs:set.length≤1000001:=of_decide_eq_true h1.1
  have hk:=X5L (k:=k) (set:=set) (no:=no) (kids:=kids) (mn:=mn) (mx:=mx)
  have hl:=h2.1
  simp only [X16,X2Q,X3o,Bool.and_eq_true,Bool.or_eq_true,decide_eq_true_eq]at hl
  rw [size]at h3
  rw [fit]
  refine⟨by omega,by rw [size]at hk;omega,?_,?_,XCA kids h1.2 h2.2 (by omega)⟩
  ·
   rcases hl.1.2 with e | e
   ·
    subst e
    have:=hl.2
    simp only [Int.reduceEq,reduceIte,or_self,Bool.and_eq_true,Bool.or_eq_true,decide_eq_true_eq]at this
    omega
   · omega
  ·
   rcases hl.1.2 with e | e
   ·
    subst e
    have:=hl.2
    simp only [Int.reduceEq,reduceIte,or_self,Bool.and_eq_true,Bool.or_eq_true,decide_eq_true_eq]at this
    omega
   · omega
theorem XCA:∀ (ns:List Nd),X0V X5Q ns→X0V X16 ns→X1O ns<1000000→XBn ns
 | [],_,_,_=>trivial
 | n::ns,h1,h2,h3=>by
  rw [X1O]at h3
  exact⟨XFe n h1.1 h2.1 (by omega),XCA ns h1.2 h2.2 (by omega)⟩
end
def X2M (s:ByteArray):Option Nd :=
 if 60<s.size∨Lib.validD s.data.toList=false∨(65533:Int)∈X3e (X0D s)then none
 else if (X2l ((X3e (X0D s)).length+1) (X3e (X0D s)) false).2.2=true∨0<(X2l ((X3e (X0D s)).length+1) (X3e (X0D s)) false).2.1.length then none
 else some (X2l ((X3e (X0D s)).length+1) (X3e (X0D s)) false).1
theorem XCB {s:ByteArray} (h:¬ (65533:Int)∈X3e (X0D s)):okS (X3e (X0D s)):=by
 intro r hr
 have h1:=XHd (X6t s) r hr
 have h2:¬ r=65533:=fun e=>h (e ▸ hr)
 simp only [X1l,X25,Bool.and_eq_true,Bool.or_eq_true,decide_eq_true_eq]
 unfold X0a at h1
 exact⟨h1,h2⟩
theorem XGa:∀ (bs:List Nat) {q:Ust},okQ q→(∀ b∈bs,b<256)→(X2o q bs).1.length≤2*bs.length:=by
 intro bs
 induction bs with
 | nil=>intro q _ _;simp [X2o]
 | cons b bs ih =>
  intro q h hb
  have p:=X9f h (hb b (by simp))
  have i:=ih p.1 fun x hx=>hb x (by simp [hx])
  simp only [X2o,List.length_append,List.length_cons]
  omega
theorem XCC (s:ByteArray):(X3e (X0D s)).length≤2*s.size+1:=by
 have h:=XGa (X0D s) (XI9 0 0 0 0) (X6t s)
 have h2:=XDN (X2o ⟨0,0,0,0,0⟩ (X0D s)).2
 have h3:(X0D s).length=s.size:=by simp [X0D]
 unfold X3e
 rw [List.length_append]
 omega
theorem XAx {s:ByteArray} {N:Nd} (h:X2M s=some N):fit N∧X0L X16 N∧size N≤241:=by
 unfold X2M at h
 split at h
 · cases h
 ·
  rename_i h1
  split at h
  · cases h
  ·
   rename_i h2
   cases h
   have hl:=XCC s
   have hb:(X2l ((X3e (X0D s)).length+1) (X3e (X0D s)) false).2.2=false:=by
    cases e:(X2l ((X3e (X0D s)).length+1) (X3e (X0D s)) false).2.2 with
    | true=>exact absurd (.inl e) h2
    | false=>rfl
   have g:=X8E _ _ _ (XCB fun e=>h1 (.inr (.inr e))) hb
   have hs:s.size≤60:=by
    by_cases e:60<s.size
    · exact absurd (.inl e) h1
    · omega
   have l2:=(X7E _).1 g.2.1
   refine⟨XFe _ (XC9 _ _ _ (by omega)) l2 (by omega),l2,by omega⟩
def ixF:List Int→Int→Nat→Int
 | [],_,_ => -1
 | x::xs,v,i=>if v=x then(i:Nat)else ixF xs v (i+1)
theorem XGb:∀ (l:List Int) (v:Int) (i:Nat),decide (0≤ixF l v i)=decide (v∈l):=by
 intro l
 induction l with
 | nil=>intro v i;simp [ixF]
 | cons x xs ih =>
  intro v i
  unfold ixF
  split
  · rename_i e;subst e;simp
  ·
   rename_i e
   rw [ih]
   congr 1
   simp [e]
end
end Go.Vai
namespace Go.Vai
open Go.Nfa Go.Utf
theorem X9B {s:ByteArray} (h:60<s.size∨Lib.validD s.data.toList=false∨(65533:Int)∈X3e (X0D s)):X2M s=none:=by rw [X2M,if_pos h]
theorem XGc {s:ByteArray} {l:List Int} (hl:l=X3e (X0D s)) (h1:¬ (60:Int)<((s.size:Nat):Int)) (h2:Lib.validD s.data.toList=true) (h3:¬ (65533:Int)∈l):¬ (60<s.size∨Lib.validD s.data.toList=false∨(65533:Int)∈X3e (X0D s)):=by
 subst hl
 rintro(h | h | h)
 · omega
 · rw [h2]at h;cases h
 · exact h3 h
theorem XCD {s:ByteArray} {l:List Int} (hl:l=X3e (X0D s)) (h:(X2l (l.length+1) l false).2.2=true∨0<(X2l (l.length+1) l false).2.1.length):X2M s=none:=by
 subst hl
 unfold X2M;split
 · rfl
 · first | rfl | rw [if_pos h]
theorem XGd {s:ByteArray} {l:List Int} (hl:l=X3e (X0D s)) (hn:¬ (60<s.size∨Lib.validD s.data.toList=false∨(65533:Int)∈X3e (X0D s))) (h:(X2l (l.length+1) l false).2.2=false) (h2:¬ 0<(X2l (l.length+1) l false).2.1.length):X2M s=some (X2l (l.length+1) l false).1:=by
 subst hl
 rw [X2M,if_neg hn,if_neg (by rw [h];simp only [Bool.false_eq_true,false_or];exact h2)]
def XFf (s:ByteArray) (r:D):Prop:=(X2M s=none∧r=.tup [.agg (X11 X9M),.int .i64 5])∨∃ N,X2M s=some N∧r=.tup [.agg (X11 N),.int .i64 0]
end Go.Vai
namespace Go.Proofs.YtiebldaihnbkmaaGreatDoor
open Go.Vai Go.Nfa Go.Utf
theorem XEP (s:ByteArray) (hs:s.size≤1000000):X1Q P ov 54 [.str s] (.bool (Lib.validD s.data.toList)):=FnD.known1 (fn:=XIF) rfl (fun _=>by simp only [XIF];rw [decide_eq_true (by omega)])
theorem XCE (s:ByteArray) (hs:s.size≤1000000):FnD P ov 53 [.str s] [] (fun r L1=>(fun r=>∃ l,l=X3e (X0D s)∧r=.sl 1 l.length (l.map (D.int .i32))) r∧L1=[]) :=
 (XDP s hs).mono fun d L' h=>⟨⟨_,rfl,h.1⟩,h.2⟩
end Go.Proofs.YtiebldaihnbkmaaGreatDoor

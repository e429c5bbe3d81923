/-
  What is proved here: a pattern that is read from a text: its size, its parts; where a sign is in a row (part PGa). how the reading of a whole pattern ends (part PGb). No conditions but those that the theorems state.
-/
import Derived.Test.YtfcadnhoejlgoaaGreatDoorPA
import Derived.Test.YtfcadnhoejlgoaaGreatDoorNQ
import Derived.Test.YtfcadnhoejlgoaaGreatDoorUA
import Derived.Lib.ValidU
import Derived.Test.YtfcadnhoejlgoaaGreatDoorPEa
set_option linter.unusedVariables false
set_option linter.unusedSimpArgs false
namespace Go.Vai
open Go.Nfa Go.Utf
noncomputable section
theorem FnD.known1 {P:Program} {ov:Ov} {f:FuncId} {fn:List Value→X0A→Option (Value×X0A)} {s:ByteArray} {b:Bool} (hov:ov f=some fn) (hg:∀ h,fn [.string s] h=some (.bool b,h)):X1K P ov f [.str s] (.bool b):=by
 intro M g a vs ok old hlen nd hcl hobj hargs
 cases hargs with
 | cons h t =>
  cases t
  cases h
  refine Fn.known hov hg ⟨.bool b,[],g,CR.bool,hlen,Nat.le_refl _,nd,fun k hk=>⟨(hcl k hk).1,(hcl k hk).2,.inl hk⟩,hobj,X1d.refl _ _,ok,fun i b k cs e _=>e,fun i cs _ e=>⟨cs,e⟩,rfl,rfl⟩
def X6L (n:Nd):Bool:=decide (n.st.length≤1000001)
def Sm (X:Rdr):Prop:=∀ s b,s.length≤1000000→X0H X6L (X s b).1
theorem XGk:∀ (f:Nat) (l:List (Int×Int)) (s:List Int) (b:Bool),(X7f f l s b).1.length≤l.length+f:=by
 intro f
 induction f with
 | zero=>intro l s b;exact Nat.le_refl _
 | succ f ih =>
  intro l s b
  unfold X7f;split
  ·
   have:=ih (l++[((X0Q s b).1,(hiM (X0Q s b)).1)]) (hiM (X0Q s b)).2.1 ((hiM (X0Q s b)).2.2 || decide ((hiM (X0Q s b)).1<(X0Q s b).1))
   rw [List.length_append,List.length_singleton]at this;omega
  · simp
theorem X7C {k:Int} {l:List (Int×Int)} {no:Bool} {ks:List Nd} {a b:Int} (h:l.length≤1000001) (hk:X0i X6L ks):X0H X6L (.mk k l no ks a b):=by
 rw [X0H];exact⟨decide_eq_true h,hk⟩
theorem XJY {alt:Rdr} (h:Sm alt):Sm (X1Y alt):=by
 intro s b hs
 have t:=(X2c s b).length_le
 unfold X1Y
 dsimp only
 split
 · exact h _ _ (by omega)
 ·
  split
  · exact X7C (by simp) trivial
  ·
   split
   · exact X7C (by simp) trivial
   ·
    split
    · exact X7C (by simp) trivial
    ·
     split
     · exact X7C (by simp) trivial
     ·
      split
      ·
       unfold X9N
       refine X7C ?_ trivial
       have h1:=XGk ((Nfa.isR 94 (tkM s b).2.1).length+1) [] (Nfa.isR 94 (tkM s b).2.1) (tkM s b).2.2
       have h2:=(XED 94 (tkM s b).2.1).length_le
       simp only [List.length_nil]at h1
       omega
      · exact X7C (by simp) trivial
theorem XGl {atom:Rdr} (h:Sm atom):Sm (X2M atom):=by
 intro s b hs
 unfold X2M
 dsimp only
 split
 · exact X7C (by simp) ⟨h s b hs,trivial⟩
 · exact h s b hs
theorem X3W {loc:Nd→Bool}:∀ {ks:List Nd} {n:Nd},X0i loc ks→X0H loc n→X0i loc (ks++[n])
 | [],n,_,h=>⟨h,trivial⟩
 | k::ks,n,h,hn=>⟨h.1,X3W h.2 hn⟩
theorem XJZ {piece:Rdr} (hl:Shr piece) (h:Sm piece):∀ (f:Nat) (ks:List Nd) (s:List Int) (b:Bool),s.length≤1000000→X0i X6L ks→X0i X6L (X6Q piece f ks s b).1:=by
 intro f
 induction f with
 | zero=>intro ks s b _ hk;exact hk
 | succ f ih =>
  intro ks s b hs hk
  unfold X6Q;split
  · exact ih _ _ _ (Nat.le_trans (hl s b).length_le hs) (X3W hk (h s b hs))
  · exact hk
theorem XLd {k:Int} {ks:List Nd} (h:X0i X6L ks):X0H X6L (ofN k ks):=by
 unfold ofN
 split
 ·
  cases ks with
  | nil=>simp at *
  | cons n ns=>exact h.1
 · exact X7C (by simp) h
theorem XLe {piece:Rdr} (hl:Shr piece) (h:Sm piece):Sm (XCb piece):=by
 intro s b hs
 unfold XCb
 dsimp only
 split
 · exact X7C (by simp) trivial
 · exact XLd (XJZ hl h _ _ _ _ hs trivial)
theorem XJa {row:Rdr} (hl:Shr row) (h:Sm row):∀ (f:Nat) (ks:List Nd) (s:List Int) (b:Bool),s.length≤1000000→X0i X6L ks→X0i X6L (X78 row f ks s b).1:=by
 intro f
 induction f with
 | zero=>intro ks s b _ hk;exact hk
 | succ f ih =>
  intro ks s b hs hk
  have ht:=(X6R s).length_le
  unfold X78;split
  · exact ih _ _ _ (Nat.le_trans (hl _ b).length_le (by omega)) (X3W hk (h _ b (by omega)))
  · exact hk
theorem XLf {row:Rdr} (hl:Shr row) (h:Sm row):Sm (XFh row):=by
 intro s b hs
 unfold XFh
 exact XLd (XJa hl h _ _ _ _ (Nat.le_trans (hl s b).length_le hs) ⟨h s b hs,trivial⟩)
theorem XDu:∀ f,Sm (X3Y f)
 | 0=>fun s b _=>X7C (by simp) trivial
 | f+1=>XLf (X6A f) (XLe (X6S f) (XGl (XJY (XDu f))))
mutual
theorem XI7:∀ (n:Nd),X0H X6L n→X0H X16 n→size n<1000000→fit n
 | .mk k set no kids mn mx,h1,h2,h3=>by
  have hs:set.length≤1000001:=of_decide_eq_true h1.1
  have hk:=X4G (k:=k) (set:=set) (no:=no) (kids:=kids) (mn:=mn) (mx:=mx)
  have hl:=h2.1
  simp only [X16,X2r,X4X,Bool.and_eq_true,Bool.or_eq_true,decide_eq_true_eq]at hl
  rw [size]at h3
  rw [fit]
  refine⟨by omega,by rw [size]at hk;omega,?_,?_,XDv kids h1.2 h2.2 (by omega)⟩
  ·
   rcases hl.1.2 with e | e
   ·
    subst e
    have:=hl.2
    simp only [Int.reduceEq,reduceIte,or_self,Bool.and_eq_true,Bool.or_eq_true,decide_eq_true_eq]at this
    omega
   · omega
  ·
   rcases hl.1.2 with e | e
   ·
    subst e
    have:=hl.2
    simp only [Int.reduceEq,reduceIte,or_self,Bool.and_eq_true,Bool.or_eq_true,decide_eq_true_eq]at this
    omega
   · omega
theorem XDv:∀ (ns:List Nd),X0i X6L ns→X0i X16 ns→X1c ns<1000000→XDO ns
 | [],_,_,_=>trivial
 | n::ns,h1,h2,h3=>by
  rw [X1c]at h3
  exact⟨XI7 n h1.1 h2.1 (by omega),XDv ns h1.2 h2.2 (by omega)⟩
end
def X2g (s:ByteArray):Option Nd :=
 if 60<s.size∨Lib.validD s.data.toList=false∨(65533:Int)∈X4Y (X0a s)then none
 else if (X3Y ((X4Y (X0a s)).length+1) (X4Y (X0a s)) false).2.2=true∨0<(X3Y ((X4Y (X0a s)).length+1) (X4Y (X0a s)) false).2.1.length then none
 else some (X3Y ((X4Y (X0a s)).length+1) (X4Y (X0a s)) false).1
theorem XDw {s:ByteArray} (h:¬ (65533:Int)∈X4Y (X0a s)):okS (X4Y (X0a s)):=by
 intro r hr
 have h1:=XKa (X7m s) r hr
 have h2:¬ r=65533:=fun e=>h (e ▸ hr)
 simp only [X1w,X2X,Bool.and_eq_true,Bool.or_eq_true,decide_eq_true_eq]
 unfold X7l at h1
 exact⟨h1,h2⟩
theorem XJb:∀ (bs:List Nat) {q:Ust},okQ q→(∀ b∈bs,b<256)→(X7I q bs).1.length≤2*bs.length:=by
 intro bs
 induction bs with
 | nil=>intro q _ _;simp [X7I]
 | cons b bs ih =>
  intro q h hb
  have p:=XAp h (hb b (by simp))
  have i:=ih p.1 fun x hx=>hb x (by simp [hx])
  simp only [X7I,List.length_append,List.length_cons]
  omega
theorem XDx (s:ByteArray):(X4Y (X0a s)).length≤2*s.size+1:=by
 have h:=XJb (X0a s) (XL2 0 0 0 0) (X7m s)
 have h2:=XF7 (X7I ⟨0,0,0,0,0⟩ (X0a s)).2
 have h3:(X0a s).length=s.size:=by simp [X0a]
 unfold X4Y
 rw [List.length_append]
 omega
theorem X7Y {s:ByteArray} {N:Nd} (h:X2g s=some N):fit N∧X0H X16 N∧size N≤241:=by
 unfold X2g at h
 split at h
 · cases h
 ·
  rename_i h1
  split at h
  · cases h
  ·
   rename_i h2
   cases h
   have hl:=XDx s
   have hb:(X3Y ((X4Y (X0a s)).length+1) (X4Y (X0a s)) false).2.2=false:=by
    cases e:(X3Y ((X4Y (X0a s)).length+1) (X4Y (X0a s)) false).2.2 with
    | true=>exact absurd (.inl e) h2
    | false=>rfl
   have g:=X9P _ _ _ (XDw fun e=>h1 (.inr (.inr e))) hb
   have hs:s.size≤60:=by
    by_cases e:60<s.size
    · exact absurd (.inl e) h1
    · omega
   have l2:=(XBT _).1 g.2.1
   refine⟨XI7 _ (XDu _ _ _ (by omega)) l2 (by omega),l2,by omega⟩
def ixF:List Int→Int→Nat→Int
 | [],_,_ => -1
 | x::xs,v,i=>if v=x then(i:Nat)else ixF xs v (i+1)
theorem XJc:∀ (l:List Int) (v:Int) (i:Nat),decide (0≤ixF l v i)=decide (v∈l):=by
 intro l
 induction l with
 | nil=>intro v i;simp [ixF]
 | cons x xs ih =>
  intro v i
  unfold ixF
  split
  · rename_i e;subst e;simp
  ·
   rename_i e
   rw [ih]
   congr 1
   simp [e]
end
end Go.Vai
namespace Go.Vai
open Go.Nfa Go.Utf
theorem XAS {s:ByteArray} (h:60<s.size∨Lib.validD s.data.toList=false∨(65533:Int)∈X4Y (X0a s)):X2g s=none:=by rw [X2g,if_pos h]
theorem XJd {s:ByteArray} {l:List Int} (hl:l=X4Y (X0a s)) (h1:¬ (60:Int)<((s.size:Nat):Int)) (h2:Lib.validD s.data.toList=true) (h3:¬ (65533:Int)∈l):¬ (60<s.size∨Lib.validD s.data.toList=false∨(65533:Int)∈X4Y (X0a s)):=by
 subst hl
 rintro(h | h | h)
 · omega
 · rw [h2]at h;cases h
 · exact h3 h
theorem XDy {s:ByteArray} {l:List Int} (hl:l=X4Y (X0a s)) (h:(X3Y (l.length+1) l false).2.2=true∨0<(X3Y (l.length+1) l false).2.1.length):X2g s=none:=by
 subst hl
 unfold X2g;split
 · rfl
 · first | rfl | rw [if_pos h]
theorem XJe {s:ByteArray} {l:List Int} (hl:l=X4Y (X0a s)) (hn:¬ (60<s.size∨Lib.validD s.data.toList=false∨(65533:Int)∈X4Y (X0a s))) (h:(X3Y (l.length+1) l false).2.2=false) (h2:¬ 0<(X3Y (l.length+1) l false).2.1.length):X2g s=some (X3Y (l.length+1) l false).1:=by
 subst hl
 rw [X2g,if_neg hn,if_neg (by rw [h];simp only [Bool.false_eq_true,false_or];exact h2)]
def XI8 (s:ByteArray) (r:D):Prop:=(X2g s=none∧r=.tup [.agg (X0z X8I),.int .i64 5])∨∃ N,X2g s=some N∧r=.tup [.agg (X0z N),.int .i64 0]
theorem XGm {k:IntKind} {m n:Nat} (h:0<n):X9m .rem (.int k (m:Int)) (.int k (n:Int))=some (.int k ((m % n:Nat):Int)):=by
 have hk:kEq k k=true:=by cases k<;>rfl
 have e1:Nat.blt 0 n=true:=by simpa using h
 show(match kEq k k with | true=>XD8 .rem k (Int.ofNat m) (Int.ofNat n) | false=>none)=_
 rw [hk]
 simp only [XD8,XL3,e1]
 rfl
theorem XLg {N:Nd} (h1:X77 N≤14) (h2:size N≤241) (h3:X0H X16 N):Nfa.cnt X16 N 1≤2000:=by
 have:=(Nfa.XBd X16 N 1).1 ⟨by omega,by omega,h3⟩
 omega
end Go.Vai
namespace Go.Proofs.YtfcadnhoejlgoaaGreatDoor
open Go.Vai Go.Nfa Go.Utf
theorem XGn (s:ByteArray) (hs:s.size≤1000000):X1K P ov 52 [.str s] (.bool (Lib.validD s.data.toList)):=FnD.known1 (fn:=XLM) rfl (fun _=>by simp only [XLM];rw [decide_eq_true (by omega)])
theorem XDz (s:ByteArray) (hs:s.size≤1000000):FnD P ov 51 [.str s] [] (fun r L1=>(fun r=>∃ l,l=X4Y (X0a s)∧r=.sl 1 l.length (l.map (D.int .i32))) r∧L1=[]) :=
 (XF9 s hs).mono fun d L' h=>⟨⟨_,rfl,h.1⟩,h.2⟩
theorem XGo (s:ByteArray) (c:Nat):FnD P ov 26 [.str s,.int .i64 ((c:Nat):Int)] [] (fun r L1=>(fun r=>∃ t:ByteArray,t=s.extract 0 (min s.size c)∧t.size≤c∧r=.str t) r∧L1=[]) :=
 (XGZ s c).mono fun d L' h=>⟨⟨_,rfl,by rw [ByteArray.size_extract];omega,h.1⟩,h.2⟩
end Go.Proofs.YtfcadnhoejlgoaaGreatDoor

/-
  What is proved here: patterns told by their parts; the reader's own state as an object; how its functions go on (part PA) how a row of pieces, an alternation and a set end (part PAb). No conditions but those that the theorems state.
-/
import Derived.Test.YtiebldaihnbkmaaGreatDoorPurePar1
import Derived.Test.YtiebldaihnbkmaaGreatDoorRM
import Derived.Test.YtiebldaihnbkmaaGreatDoorNQ
set_option linter.unusedVariables false
set_option linter.unusedSimpArgs false
namespace Go.Nfa
def Nd.kd:Nd→Int | .mk k _ _ _ _ _=>k
def Nd.st:Nd→List (Int×Int) | .mk _ l _ _ _ _=>l
def Nd.no:Nd→Bool | .mk _ _ b _ _ _=>b
def Nd.ks:Nd→List Nd | .mk _ _ _ ks _ _=>ks
def Nd.mi:Nd→Int | .mk _ _ _ _ z _=>z
def Nd.ma:Nd→Int | .mk _ _ _ _ _ z=>z
end Go.Nfa
namespace Go.Vai
open Go.Nfa
noncomputable section
def X11 (x:Nd):List D:=[.int .i64 x.kd,.sl 2 x.st.length (x.st.flatMap X0s),.bool x.no,.sl 6 x.ks.length (X0R x.ks),.int .i64 x.mi,.int .i64 x.ma]
theorem XC3 (x:Nd):X11 x=X43 x:=by cases x;rfl
theorem XEG (x:Nd):X11 x=[x].flatMap X43:=by rw [XC3,List.flatMap_cons,List.flatMap_nil,List.append_nil]
abbrev X0I (s:List Int) (b:Bool):Ob:=.box [.sl 1 s.length (s.map (D.int .i32)),.bool b]
def X2j (x:Rd Nd) (r:D) (L1:List Ob):Prop:=r=.agg (X11 x.1)∧L1=[X0I x.2.1 x.2.2]
def XGK (k:IntKind) (x:Rd Int) (r:D) (L1:List Ob):Prop:=r=.int k x.1∧L1=[X0I x.2.1 x.2.2]
def postR (x:Rd (Int×Int×Bool)) (r:D) (L1:List Ob):Prop:=r=.tup [.int .i64 x.1.1,.int .i64 x.1.2.1,.bool x.1.2.2]∧L1=[X0I x.2.1 x.2.2]
theorem nx0 {s:List Int} (h:((s.length:Nat):Int)=0):(-1:Int)=nx s:=by
 have:s=[]:=List.length_eq_zero_iff.1 (by omega)
 subst this;rfl
theorem nx1 {s:List Int} (h:¬ ((s.length:Nat):Int)=0):s.getD 0 0=nx s:=by
 cases s with
 | nil=>simp at h
 | cons r s=>rfl
theorem X81 {s:List Int} (h:0≤nx s):1≤s.length:=by have:=X3h h;omega
theorem XIL {s:List Int}:D.sl 1 (s.length - 1) (((s.map (D.int .i32)).drop (1*1)).take ((s.length - 1)*1))=.sl 1 s.tail.length (s.tail.map (D.int .i32)):=by
 rw [List.take_of_length_le (by simp)]
 cases s<;>simp
theorem XIM {ks:List Nd} (h:((ks.length:Nat):Int)=1):∃ x,ks=[x]:=by
 cases ks with
 | nil=>simp at h
 | cons x ks=>exact⟨x,by rw [List.length_eq_zero_iff.1 (show ks.length=0 by simp at h;omega)]⟩
theorem of_ne {k:Int} {ks:List Nd} {n:Nat} (hn:ks.length=n) (h:¬ ((n:Nat):Int)=1):D.agg [.int .i64 k,.sl 2 0 [],.bool false,.sl 6 n (ks.flatMap X43),.int .i64 0,.int .i64 0]=.agg (X11 (ofN k ks)):=by
 subst hn
 rw [ofN,if_neg (by omega),X11,← X44];rfl
theorem XC4 {n:Nd} {a b:Int}:D.agg [.int .i64 5,.sl 2 0 [],.bool false,.sl 6 1 (X11 n),.int .i64 a,.int .i64 b]=.agg (X11 (.mk 5 [] false [n] a b)):=by
 rw [XEG,← X44];rfl
theorem XIN {l:List (Int×Int)} {b:Bool} {n:Nat} (hn:l.length=n):D.agg [.int .i64 2,.sl 2 n (l.flatMap X0s),.bool b,.sl 6 0 [],.int .i64 0,.int .i64 0]=.agg (X11 (.mk 2 l b [] 0 0)):=by
 subst hn;rfl
theorem XGL {piece:Rdr} {f:Nat} {ks:List Nd} {s:List Int} {b:Bool} (h:b=false∧0≤nx s∧¬ nx s=124∧¬ nx s=41) (hf:b=false→s.length≤f):X4z piece f ks s b=X4z piece (f - 1) (ks++[(piece s b).1]) (piece s b).2.1 (piece s b).2.2:=by
 have h1:=X81 h.2.1
 have h2:=hf h.1
 obtain⟨g,rfl⟩:∃ g,f=g+1:=⟨f - 1,by omega⟩
 rw [X4z,if_pos h];rfl
theorem X82 {piece:Rdr} {f:Nat} {ks:List Nd} {s:List Int} {b:Bool} (h:¬ (b=false∧0≤nx s∧¬ nx s=124∧¬ nx s=41)):X4z piece f ks s b=(ks,s,b):=by
 cases f with
 | zero=>rfl
 | succ f=>rw [X4z,if_neg h]
theorem XGM {row:Rdr} {f:Nat} {ks:List Nd} {s:List Int} {b:Bool} (h0:b=false) (h:nx s=124) (hf:b=false→s.length≤f):X5Y row f ks s b=X5Y row (f - 1) (ks++[(row s.tail b).1]) (row s.tail b).2.1 (row s.tail b).2.2:=by
 have h1:=X81 (s:=s) (by omega)
 have h2:=hf h0
 obtain⟨g,rfl⟩:∃ g,f=g+1:=⟨f - 1,by omega⟩
 rw [X5Y,if_pos ⟨h0,h⟩];rfl
theorem XC5 {row:Rdr} {f:Nat} {ks:List Nd} {s:List Int} {b:Bool} (h:¬ (b=false∧nx s=124)):X5Y row f ks s b=(ks,s,b):=by
 cases f with
 | zero=>rfl
 | succ f=>rw [X5Y,if_neg h]
theorem XGN {f:Nat} {l:List (Int×Int)} {s:List Int} {b:Bool} (h:b=false∧¬ nx s=93) (hf:b=false→s.length<f) :
  X6n f l s b=X6n (f - 1) (l++[((X0J s b).1,(hiM (X0J s b)).1)]) (hiM (X0J s b)).2.1 ((hiM (X0J s b)).2.2 || decide ((hiM (X0J s b)).1<(X0J s b).1)):=by
 have h2:=hf h.1
 obtain⟨g,rfl⟩:∃ g,f=g+1:=⟨f - 1,by omega⟩
 rw [X6n,if_pos h];rfl
theorem XC6 {f:Nat} {l:List (Int×Int)} {s:List Int} {b:Bool} (h:¬ (b=false∧¬ nx s=93)):X6n f l s b=(l,s,b):=by
 cases f with
 | zero=>rfl
 | succ f=>rw [X6n,if_neg h]
theorem XGO {f:Nat} {s:List Int} {b:Bool} (hf:b=false→s.length<f) (h:b=false):((hiM (X0J s b)).2.2 || decide ((hiM (X0J s b)).1<(X0J s b).1))=false→(hiM (X0J s b)).2.1.length<f - 1:=by
 intro e
 simp only [Bool.or_eq_false_iff]at e
 have h1:=XIm (XFj e.1)
 have h2:=(XGr (X0J s b)).length_le
 have:=hf h
 omega
end
end Go.Vai
namespace Go.Vai
open Go.Nfa
theorem XGP {piece:Rdr} {s s1:List Int} {b b1:Bool} {f n:Nat} {ks:List Nd} (hr:X4z piece s.length [] s b=X4z piece f ks s1 b1) (h:¬ (b1=false∧0≤nx s1∧¬ nx s1=124∧¬ nx s1=41)) (hn:ks.length=n) (h0:n=0) :
  X2j (X94 piece s b) (.agg (X11 X9M)) [X0I s1 true]:=by
 rw [X82 h]at hr
 rw [X94];simp only [hr]
 rw [if_pos (by omega)];exact⟨rfl,rfl⟩
theorem XEH {piece:Rdr} {s s1:List Int} {b b1:Bool} {f n:Nat} {ks:List Nd} (hr:X4z piece s.length [] s b=X4z piece f ks s1 b1) (h:¬ (b1=false∧0≤nx s1∧¬ nx s1=124∧¬ nx s1=41)) (hn:ks.length=n) (h0:¬ n=0) :
  X2j (X94 piece s b) (.agg (X11 (ofN 3 ks))) [X0I s1 b1]:=by
 rw [X82 h]at hr
 rw [X94];simp only [hr]
 rw [if_neg (by omega)];exact⟨rfl,rfl⟩
theorem XAB {row:Rdr} {s s1:List Int} {b b1:Bool} {f n:Nat} {ks:List Nd} (hr:X5Y row s.length [(row s b).1] (row s b).2.1 (row s b).2.2=X5Y row f ks s1 b1) (h:¬ (b1=false∧nx s1=124)) (hn:ks.length=n) :
  X2j (XBj row s b) (.agg (X11 (ofN 4 ks))) [X0I s1 b1]:=by
 rw [XC5 h]at hr
 rw [XBj];simp only [hr];exact⟨rfl,rfl⟩
theorem XEI {atom:Rdr} {s:List Int} {b:Bool} (h:(X0t (atom s b).2.1 (atom s b).2.2).1.2.2=false):X2j (X1T atom s b) (.agg (X11 (atom s b).1)) [X0I (X0t (atom s b).2.1 (atom s b).2.2).2.1 (X0t (atom s b).2.1 (atom s b).2.2).2.2]:=by
 rw [X1T];simp only [h];exact⟨rfl,rfl⟩
theorem X5P {atom:Rdr} {s:List Int} {b bb:Bool} (h:(X0t (atom s b).2.1 (atom s b).2.2).1.2.2=true) (hb:bb=((X0t (atom s b).2.1 (atom s b).2.2).2.2 || decide (nx s=94∨nx s=36))) :
  X2j (X1T atom s b) (.agg [.int .i64 5,.sl 2 0 [],.bool false,.sl 6 1 (X11 (atom s b).1),.int .i64 (X0t (atom s b).2.1 (atom s b).2.2).1.1,.int .i64 (X0t (atom s b).2.1 (atom s b).2.2).1.2.1]) [X0I (X0t (atom s b).2.1 (atom s b).2.2).2.1 bb]:=by
 subst hb
 rw [X1T];simp only [h,if_true];exact⟨XC4,rfl⟩
theorem XIO {s:List Int} {b:Bool} (h:(tkM s b).1=40):(tkM s b).2.1.length+1≤s.length:=by
 have e:(tkM s b).1=nx s:=by unfold tkM;split<;>rfl
 exact XGv (by omega) b
theorem XGQ {s:List Int} {b:Bool} (hs:okS s) (h:(tkM s b).2.2=false):X1l (tkM s b).1=true:=by
 have:=X4Y h
 rw [this.2.2.1];exact hs.nx this.1
theorem X7F {s s1 s2:List Int} {b b1 b2:Bool} {f n:Nat} {l:List (Int×Int)} (hr:X6n ((isR 94 s).length+1) [] (isR 94 s) b=X6n f l s1 b1) (h:¬ (b1=false∧¬ nx s1=93)) (hn:l.length=n)
  (h1:(X0i 93 s1 b1).1=s2) (h2:((X0i 93 s1 b1).2 || decide (n=0))=b2):X2j (X8C s b) (.agg [.int .i64 2,.sl 2 n (l.flatMap X0s),.bool (decide (nx s=94)),.sl 6 0 [],.int .i64 0,.int .i64 0]) [X0I s2 b2]:=by
 rw [XC6 h]at hr
 rw [X8C];simp only [hr]
 subst h1 h2 hn
 exact⟨XIN rfl,rfl⟩
end Go.Vai

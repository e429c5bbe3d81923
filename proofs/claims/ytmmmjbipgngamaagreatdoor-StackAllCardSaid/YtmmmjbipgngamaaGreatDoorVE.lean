/-
  What is proved here: more value operations (parts of structs and arrays, comparisons with nil, building), and those that  the operations of a plain interpreter of Go code that read, write or make memory (load, store, new v append, copy, and the conversions between strings and bytes, of a plain interpreter of Go code, are  No conditions but those that the theorems state.
-/
import Derived.Test.YtmmmjbipgngamaaGreatDoorVC
import Derived.Laws.StructEq
import GoSem.Dispatch
import GoSem.Machine.Frame
import Derived.Lib.ConvBytes
import Derived.Laws.BytesArg
import Derived.Laws.AppendOwn
set_option linter.unusedVariables false
set_option linter.unusedSimpArgs false
namespace Go.Vai
noncomputable section
def X2u (P:Program) (t:TypeId):Option Bool:=match P.underlying t with
 | some (.struct _)=>some true
 | some (.array _ _)=>some true
 | some _=>some false
 | none=>none
theorem X16 {P:Program} {t:TypeId} {b:Bool} (h:X2u P t=some b) (w:World):(isAgg t).run P w=.ok b w:=by
 unfold X2u at h
 split at h
 · rename_i fs hu;cases h;simp [isAgg,X00 hu]
 · rename_i n e hu;cases h;simp [isAgg,X00 hu]
 ·
  rename_i d h1 h2 hu
  cases h
  simp only [isAgg,Sem.run_bind,X00 hu,Result.andThen_ok]
  cases d<;>first | rfl | exact absurd rfl (h1 _) | exact absurd rfl (h2 _ _)
 · cases h
def XAf (P:Program) (t:TypeId) (cs:Array Value) (off:Nat):Option Value :=
 match X2u P t with
 | some true=>match sz P t with
  | some n=>some (.agg (cs.extract off (off+n)))
  | none=>none
 | some false=>cs[off]?
 | none=>none
theorem F2.extract {ρ:Rho} {cs cs':Array Value} (h:F2 (X13 ρ) cs.toList cs'.toList) (i j:Nat):F2 (X13 ρ) (cs.extract i j).toList (cs'.extract i j).toList:=by
 rw [Array.toList_extract,Array.toList_extract]
 simp only [List.extract_eq_take_drop]
 exact(h.drop _).take _
theorem X5Y {P:Program} {ρ:Rho} {t:TypeId} {cs cs':Array Value} {off:Nat} {v:Value} (h:XAf P t cs off=some v) (r:F2 (X13 ρ) cs.toList cs'.toList):SP P ρ (part t cs' off) v:=by
 unfold XAf at h
 split at h
 ·
  rename_i ha
  split at h
  ·
   rename_i n hn
   cases h
   exact⟨_,fun w=>by simp [part,X16 ha,X0g hn],.one (.agg (r.extract _ _))⟩
  · cases h
 ·
  rename_i ha
  obtain⟨v',h1,h2⟩:=r.get off v (by simpa using h)
  refine⟨v',fun w=>?_,.one (.one h2)⟩
  have:cs'[off]?=some v':=by simpa using h1
  simp [part,X16 ha,this]
 · cases h
def X6P (P:Program) (t:TypeId) (x:Value) (f:Nat):Option Value :=
 match P.underlying t with
 | some (.struct fields)=>match fields[f]? with
  | some fd=>match x with
   | .agg cs=>XAf P fd.type cs fd.offset
   | _=>none
  | none=>none
 | _=>none
theorem X0N.agg_inv {ρ:Rho} {cs:Array Value} {v':Value} (r:X0N ρ (.agg cs) v'):∃ cs',v'=.agg cs'∧F2 (X13 ρ) cs.toList cs'.toList:=by
 cases r with
 | one k=>cases k with
  | one k=>cases k;contradiction
  | agg k=>exact⟨_,rfl,k⟩
theorem X0N.tuple_inv {ρ:Rho} {cs:Array Value} {v':Value} (r:X0N ρ (.tuple cs) v'):∃ cs',v'=.tuple cs'∧F2 (X62 ρ) cs.toList cs'.toList:=by
 cases r with
 | one k=>cases k with
  | one k=>cases k;contradiction
 | tuple k=>exact⟨_,rfl,k⟩
theorem X7r {P:Program} {ρ:Rho} {t:TypeId} {x x' v:Value} {f:Nat} (h:X6P P t x f=some v) (r:X0N ρ x x'):SP P ρ (Instr.field t x' f) v:=by
 unfold X6P at h
 split at h
 case h_2=>cases h
 rename_i fields hu
 split at h
 case h_2=>cases h
 rename_i fd hf
 split at h
 case h_2=>cases h
 rename_i cs
 obtain⟨cs',rfl,hr⟩:=r.agg_inv
 obtain⟨v',h1,h2⟩:=X5Y h hr
 exact⟨v',fun w=>by simp [Instr.field,X00 hu,hf,asAgg,h1],h2⟩
def X7s (P:Program) (t:TypeId) (x ix:Value):Option Value :=
 match ix with
 | .int k j=>match x with
  | .string s=>X1B P (Instr.index t (.string s) (.int k j))
  | .agg cs=>match P.underlying t with
   | some (.array n elem)=>match sz P elem with
    | some e=>match decide (0≤j) && decide (j<n)with
     | true=>XAf P elem cs (j.toNat*e)
     | false=>none
    | none=>none
   | _=>none
  | _=>none
 | _=>none
theorem X7t {P:Program} {ρ:Rho} {t:TypeId} {x x' ix ix' v:Value} (h:X7s P t x ix=some v) (r:X0N ρ x x') (ri:X0N ρ ix ix'):SP P ρ (Instr.index t x' ix') v:=by
 unfold X7s at h
 split at h
 case h_2=>cases h
 rename_i k j
 have:=ri.eq_of_plain rfl;subst this
 split at h
 · have:=r.eq_of_plain rfl;subst this;exact X0i h
 ·
  rename_i cs
  split at h
  case h_2=>cases h
  rename_i n elem hu
  split at h
  case h_2=>cases h
  rename_i e he
  split at h
  case h_2=>cases h
  rename_i hj
  simp only [Bool.and_eq_true,decide_eq_true_eq]at hj
  obtain⟨cs',rfl,hr⟩:=r.agg_inv
  obtain⟨v',h1,h2⟩:=X5Y h hr
  exact⟨v',fun w=>by simp [Instr.index,asIntOf,X00 hu,hj.1,hj.2,X0g he,h1],h2⟩
 · cases h
def X43 (x:Value) (i:Nat):Option Value:=match x with
 | .tuple vs=>vs[i]?
 | _=>none
theorem X63 {P:Program} {ρ:Rho} {x x' v:Value} {i:Nat} (h:X43 x i=some v) (r:X0N ρ x x'):SP P ρ (Instr.extract x' i) v:=by
 unfold X43 at h
 split at h
 ·
  rename_i vs
  obtain⟨vs',rfl,hr⟩:=r.tuple_inv
  obtain⟨v',h1,h2⟩:=hr.get i v (by simpa using h)
  have:vs'[i]?=some v':=by simpa using h1
  exact⟨v',fun w=>by simp [Instr.extract,this],.one h2⟩
 · cases h
def X5Z (P:Program) (t:TypeId) (x y:Value):Bool :=
 match x,y with
 | .pointer (some _),.pointer none=>match P.underlying t with | some (.pointer _)=>true | _=>false
 | .pointer none,.pointer (some _)=>match P.underlying t with | some (.pointer _)=>true | _=>false
 | .slice (some _) _ _,.slice none _ _=>match P.underlying t with | some (.slice _)=>true | _=>false
 | .slice none _ _,.slice (some _) _ _=>match P.underlying t with | some (.slice _)=>true | _=>false
 | .func _ _ _,.nilFunc=>match P.underlying t with | some (.func _ _ _)=>true | _=>false
 | _,_=>false
def ltI:Int→Int→Bool
 | .ofNat m,.ofNat n=>Nat.blt m n
 | .ofNat _,.negSucc _=>false
 | .negSucc _,.ofNat _=>true
 | .negSucc m,.negSucc n=>Nat.blt n m
def eqI:Int→Int→Bool
 | .ofNat m,.ofNat n=>Nat.beq m n
 | .negSucc m,.negSucc n=>Nat.beq m n
 | _,_=>false
theorem X7u (x y:Int):ltI x y=decide (x<y):=by
 cases x<;>cases y<;>simp only [ltI]<;>(apply Bool.eq_iff_iff.2;simp only [decide_eq_true_eq,Nat.blt_eq,Bool.false_eq_true,true_iff,false_iff,Int.ofNat_eq_natCast,Int.negSucc_eq])<;>omega
theorem XA2 (x y:Int):eqI x y=(x == y):=by
 cases x<;>cases y<;>simp only [eqI]<;>(apply Bool.eq_iff_iff.2;simp only [beq_iff_eq,Nat.beq_eq,Bool.false_eq_true,false_iff,Int.ofNat_eq_natCast,Int.negSucc_eq])<;>omega
def kHi:IntKind→Nat
 | .i8=>128
 | .i16=>32768
 | .i32=>2147483648
 | .i64=>9223372036854775808
 | .u8=>256
 | .u16=>65536
 | .u32=>4294967296
 | .u64=>18446744073709551616
def kSg:IntKind→Bool
 | .i8=>true
 | .i16=>true
 | .i32=>true
 | .i64=>true
 | _=>false
def X0X (k:IntKind) (n:Int):Int :=
 match n with
 | .ofNat m=>match Nat.blt m (kHi k)with
  | true=>.ofNat m
  | false=>match kSg k with
   | true=>k.wrap (.ofNat m)
   | false=>.ofNat (Nat.mod m (kHi k))
 | .negSucc m=>match kSg k && Nat.blt m (kHi k)with
  | true=>.negSucc m
  | false=>k.wrap (.negSucc m)
theorem X5a {k:IntKind} {n:Int} (h0:kSg k=false→0≤n) (h1 : -(kHi k:Int)≤n) (h2:n<kHi k):k.wrap n=n:=by
 unfold IntKind.wrap
 cases k<;>simp [IntKind.bits,IntKind.signed,kHi,kSg]at h0 h1 h2 ⊢<;>omega
theorem XFx {k:IntKind} {m:Nat} (h:kSg k=false):k.wrap (m:Int)=((Nat.mod m (kHi k):Nat):Int):=by
 have e:Nat.mod m (kHi k)=m % kHi k:=rfl
 rw [e]
 unfold IntKind.wrap
 cases k<;>simp [kSg]at h<;>simp [IntKind.bits,IntKind.signed,kHi]
theorem X1v (k:IntKind) (n:Int):X0X k n=k.wrap n:=by
 unfold X0X
 cases n with
 | ofNat m =>
  simp only
  split
  ·
   rename_i h
   have h:m<kHi k:=by simpa using h
   simp only [Int.ofNat_eq_natCast]
   exact(X5a (fun _=>by omega) (by omega) (by omega)).symm
  ·
   split
   · rfl
   · rename_i h;simp only [Int.ofNat_eq_natCast];exact(XFx h).symm
 | negSucc m =>
  simp only
  split
  ·
   rename_i h
   simp only [Bool.and_eq_true,Nat.blt_eq]at h
   refine(X5a (fun hx=>by rw [h.1]at hx;cases hx) ?_ ?_).symm
   · rw [Int.negSucc_eq];omega
   · rw [Int.negSucc_eq];omega
  · rfl
theorem XH6 (k:IntKind):kHi k≤2 ^ k.bits:=by cases k<;>decide
def XH7 (k:IntKind) (f:Nat→Nat→Nat) (a b:Int):Option Value :=
 match a,b with
 | .ofNat m,.ofNat n=>match Nat.blt m (kHi k) && Nat.blt n (kHi k)with
  | true=>some (.int k (X0X k (.ofNat (f m n))))
  | false=>none
 | _,_=>none
def qsh (op:BinOp) (k:IntKind) (a b:Int):Option Value :=
 match a,b with
 | .ofNat m,.ofNat n=>match Nat.ble n k.bits with
  | true=>match op with
   | .shl=>some (.int k (X0X k (.ofNat (Nat.mul m (Nat.pow 2 n)))))
   | .shr=>some (.int k (.ofNat (Nat.div m (Nat.pow 2 n))))
   | _=>none
  | false=>none
 | _,_=>none
def XH8 (op:BinOp) (k:IntKind) (a b:Int):Option Value :=
 match a,b with
 | .ofNat m,.ofNat n=>match Nat.blt 0 n with
  | true=>match op with
   | .quo=>some (.int k (X0X k (.ofNat (Nat.div m n))))
   | .rem=>some (.int k (.ofNat (Nat.mod m n)))
   | _=>none
  | false=>none
 | _,_=>none
def XGK (op:BinOp) (k:IntKind) (a b:Int):Option Value :=
 match op with
 | .add=>some (.int k (X0X k (a+b)))
 | .sub=>some (.int k (X0X k (a - b)))
 | .mul=>some (.int k (X0X k (a*b)))
 | .quo=>XH8 .quo k a b
 | .rem=>XH8 .rem k a b
 | .and=>XH7 k Nat.land a b
 | .or=>XH7 k Nat.lor a b
 | .xor=>XH7 k Nat.xor a b
 | .eql=>some (.bool (eqI a b))
 | .neq=>some (.bool (!eqI a b))
 | .lss=>some (.bool (ltI a b))
 | .leq=>some (.bool (!ltI b a))
 | .gtr=>some (.bool (ltI b a))
 | .geq=>some (.bool (!ltI a b))
 | _=>none
def kIx:IntKind→Nat
 | .i8=>0
 | .i16=>1
 | .i32=>2
 | .i64=>3
 | .u8=>4
 | .u16=>5
 | .u32=>6
 | .u64=>7
def kEq (k k':IntKind):Bool:=Nat.beq (kIx k) (kIx k')
theorem XCH {k k':IntKind} (h:kEq k k'=true):k=k':=by
 cases k<;>cases k'<;>first | rfl | cases h
def XA3 (op:BinOp) (x y:Value):Option Value :=
 match x,y with
 | .int k a,.int k' b=>match op with
  | .shl=>qsh .shl k a b
  | .shr=>qsh .shr k a b
  | op=>match kEq k k' with
   | true=>XGK op k a b
   | false=>none
 | _,_=>none
theorem X2a {k:IntKind} {m:Nat} (h:m<kHi k):(BitVec.ofInt k.bits (Int.ofNat m)).toNat=m:=by
 have:=XH6 k
 have e:BitVec.ofInt k.bits (Int.ofNat m)=BitVec.ofNat k.bits m:=by
  simp
 rw [e,BitVec.toNat_ofNat,Nat.mod_eq_of_lt (by omega)]
theorem XAg {P:Program} {op:BinOp} {k:IntKind} {a b:Int} {v:Value} (t:TypeId) (h:XGK op k a b=some v):(∀ w,(binOp op t (.int k a) (.int k b)).run P w=.ok v w)∧X03 v=true:=by
  have bits:∀ (f:Nat→Nat→Nat) (g:BitVec k.bits→BitVec k.bits→BitVec k.bits),(∀ m n:Nat,m<kHi k→n<kHi k→(g (BitVec.ofInt k.bits (Int.ofNat m)) (BitVec.ofInt k.bits (Int.ofNat n))).toNat=f m n) →
      XH7 k f a b=some v→v=.int k (k.wrap (g (BitVec.ofInt k.bits a) (BitVec.ofInt k.bits b)).toNat):=by
    intro f g hg hq
    unfold XH7 at hq
    split at hq
    · rename_i m n
      split at hq
      · rename_i hb
        simp only [Bool.and_eq_true,Nat.blt_eq]at hb
        cases hq
        rw [X1v,hg m n hb.1 hb.2];rfl
      · cases hq
    · cases hq
  cases op<;>simp only [XGK]at h<;>first | (cases h;done) | skip
  case add=>cases h;exact⟨fun w=>by rw [X1v];simp [binOp,Op.intArith],rfl⟩
  case sub=>cases h;exact⟨fun w=>by rw [X1v];simp [binOp,Op.intArith],rfl⟩
  case mul=>cases h;exact⟨fun w=>by rw [X1v];simp [binOp,Op.intArith],rfl⟩
  case quo =>
    unfold XH8 at h
    split at h
    · rename_i m n
      split at h
      · rename_i hn
        have hn:0<n:=by simpa using hn
        simp only at h
        cases h
        refine⟨fun w=>?_,rfl⟩
        have:¬ (Int.ofNat n=0):=by simp;omega
        rw [X1v]
        simp only [binOp,Op.intDiv,ne_eq,not_true_eq_false,if_false,this]
        rfl
      · cases h
    · cases h
  case rem =>
    unfold XH8 at h
    split at h
    · rename_i m n
      split at h
      · rename_i hn
        have hn:0<n:=by simpa using hn
        simp only at h
        cases h
        refine⟨fun w=>?_,rfl⟩
        have:¬ (Int.ofNat n=0):=by simp;omega
        simp only [binOp,Op.intDiv,ne_eq,not_true_eq_false,if_false,this]
        rfl
      · cases h
    · cases h
  case and =>
    have:=bits Nat.land (· &&& ·) (fun m n hm hn=>by rw [BitVec.toNat_and,X2a hm,X2a hn];rfl) h
    subst this
    exact⟨fun w=>by simp [binOp,Op.intBits],rfl⟩
  case or =>
    have:=bits Nat.lor (· ||| ·) (fun m n hm hn=>by rw [BitVec.toNat_or,X2a hm,X2a hn];rfl) h
    subst this
    exact⟨fun w=>by simp [binOp,Op.intBits],rfl⟩
  case xor =>
    have:=bits Nat.xor (· ^^^ ·) (fun m n hm hn=>by rw [BitVec.toNat_xor,X2a hm,X2a hn];rfl) h
    subst this
    exact⟨fun w=>by simp [binOp,Op.intBits],rfl⟩
  all_goals
    simp only [Option.some.injEq]at h
    subst h
    refine⟨fun w=>?_,rfl⟩
    simp only [X7u,XA2]
    first
      | rfl
      | (simp only [binOp,Op.intCmp,ne_eq,not_true_eq_false,if_false,Sem.run_pure];done)
      | (simp only [binOp, Op.intCmp, ne_eq, not_true_eq_false, if_false, Sem.run_pure]
         have hh:∀ (p q:Bool),p=q→(Result.ok (Value.bool p) w:Result Value)=Result.ok (Value.bool q) w:=fun p q e=>by rw [e]
         exact hh _ _ (by first
           | rfl
           | (apply Bool.eq_iff_iff.2
              simp
              done)
           | (apply Bool.eq_iff_iff.2
              simp
              omega)))
theorem X7v {P:Program} {op:BinOp} {k k':IntKind} {a b:Int} {v:Value} (t:TypeId) (h:qsh op k a b=some v):(∀ w,(binOp op t (.int k a) (.int k' b)).run P w=.ok v w)∧X03 v=true:=by
 unfold qsh at h
 split at h
 case h_2=>cases h
 rename_i m n
 split at h
 case h_2=>cases h
 rename_i hn
 have hn:n≤k.bits:=by simpa using hn
 have hneg:¬ (Int.ofNat n<0):=by simp
 have hmin:min (Int.ofNat n).toNat k.bits=n:=by simp;omega
 split at h
 ·
  cases h
  refine⟨fun w=>?_,rfl⟩
  simp only [binOp,Op.shift,hneg,if_false,hmin]
  rw [X1v]
  rfl
 ·
  cases h
  refine⟨fun w=>?_,rfl⟩
  simp only [binOp,Op.shift,hneg,if_false,hmin]
  have e:(Int.ofNat m).fdiv (2 ^ n)=Int.ofNat (Nat.div m (Nat.pow 2 n)):=by
   rw [Int.fdiv_eq_ediv_of_nonneg _ (Int.pow_nonneg (by decide))]
   show(m:Int) / (2:Int) ^ n=((m / 2 ^ n:Nat):Int)
   simp
  rw [e]
  rfl
 · cases h
theorem XAh {P:Program} {ρ:Rho} {op:BinOp} {t:TypeId} {ox oy:Operand} {x y x' y' v:Value} (h:XA3 op x y=some v) (rx:X0N ρ x x') (ry:X0N ρ y y') :
  SP P ρ (do eqGuard op t ox oy x' y';binOp op t x' y') v:=by
 unfold XA3 at h
 split at h
 case h_2=>cases h
 rename_i k a k' b
 have:=rx.eq_of_plain rfl;subst this
 have:=ry.eq_of_plain rfl;subst this
 have hg:∀ w,(eqGuard op t ox oy (.int k a) (.int k' b)).run P w=.ok () w:=fun w=>by
  unfold eqGuard;split<;>rfl
 have fin:(∀ w,(binOp op t (.int k a) (.int k' b)).run P w=.ok v w)∧X03 v=true→SP P ρ (do eqGuard op t ox oy (.int k a) (.int k' b);binOp op t (.int k a) (.int k' b)) v :=
  fun q=>⟨v,fun w=>by rw [Sem.run_bind,hg,Result.andThen_ok];exact q.1 w,.plain q.2⟩
 split at h
 · exact fin (X7v t h)
 · exact fin (X7v t h)
 ·
  split at h
  case h_2=>cases h
  rename_i hk
  have hk:k=k':=XCH hk
  subst hk
  exact fin (XAg t h)
def XA4 (P:Program):Nat→List Field→Bool
 | _,[]=>true
 | i,f::fs=>match decide (f.name ≠ "_") && Nat.beq f.offset i,X2u P f.type,P.underlying f.type with
  | true,some false,some (.int _)=>XA4 P (i+1) fs
  | _,_,_=>false
def X3T (P:Program) (t:TypeId):Option (List Field) :=
 match P.underlying t with
 | some (.struct fs)=>match XA4 P 0 fs.toList && !P.stoodInHeld t && !P.eqGuardType P.depth t with
  | true=>some fs.toList
  | false=>none
 | _=>none
def eqF:List Field→List Value→List Value→Option Bool
 | [],_,_=>some true
 | _::fs,v::xs,u::ys=>match v,u with
  | .int k a,.int k' b=>match kEq k k' with
   | true=>match eqI a b with
    | true=>eqF fs xs ys
    | false=>some false
   | false=>none
  | _,_=>none
 | _,_,_=>none
theorem XCI {P:Program} {d:Nat} {xs ys:Array Value} {w:World}:∀ (fs:List Field) (i:Nat) (r:Bool),XA4 P i fs=true→eqF fs (xs.toList.drop i) (ys.toList.drop i)=some r→(Op.eqFields (d+1) xs ys fs).run P w=.ok r w:=by
 intro fs
 induction fs with
 | nil=>intro i r _ h;simp only [eqF,Option.some.injEq]at h;subst h;rfl
 | cons f fs ih =>
  intro i r hf h
  simp only [XA4]at hf
  split at hf
  case h_2=>cases hf
  rename_i k0 hck ha hu
  simp only [Bool.and_eq_true,decide_eq_true_eq]at hck
  have ho:f.offset=i:=Nat.eq_of_beq_eq_true hck.2
  unfold eqF at h
  split at h
  · rename_i hx;cases hx
  ·
   rename_i v xs' u ys' hfs hx hy
   cases hfs
   split at h
   case h_2=>cases h
   rename_i k a k' b
   split at h
   case h_2=>cases h
   rename_i hk
   have hk:k=k':=XCH hk
   subst hk
   have hxv:xs[i]?=some (.int k a):=by
    have:(xs.toList.drop i)[0]?=some (.int k a):=by rw [hx];rfl
    simpa using this
   have hyv:ys[i]?=some (.int k b):=by
    have:(ys.toList.drop i)[0]?=some (.int k b):=by rw [hy];rfl
    simpa using this
   have hxs:xs.toList.drop (i+1)=xs':=by rw [← List.tail_drop,hx];rfl
   have hys:ys.toList.drop (i+1)=ys':=by rw [← List.tail_drop,hy];rfl
   have p1:(part f.type xs f.offset).run P w=.ok (.int k a) w:=by simp [part,X16 ha,ho,hxv]
   have p2:(part f.type ys f.offset).run P w=.ok (.int k b) w:=by simp [part,X16 ha,ho,hyv]
   have p3:(Op.equalIn (d+1) f.type (.int k a) (.int k b)).run P w=.ok (a == b) w:=run_equalIn_int w d f.type k _ a b hu
   simp only [Op.eqFields]
   rw [if_pos hck.1]
   simp only [Sem.run_bind,p1,p2,p3,Result.andThen_ok]
   rw [XA2]at h
   split at h
   ·
    rename_i hab
    rw [hab]
    simp only [Bool.not_true,Bool.false_eq_true,if_false]
    exact ih (i+1) r hf (by rw [hxs,hys];exact h)
   ·
    rename_i hab
    cases h
    rw [hab]
    rfl
  · cases h
def XFy (P:Program) (op:BinOp) (t:TypeId) (x y:Value):Option Value :=
 match x,y with
 | .agg xs,.agg ys=>match op with
  | .eql=>match X3T P t with
   | some fs=>match eqF fs xs.toList ys.toList with
    | some r=>some (.bool r)
    | none=>none
   | none=>none
  | .neq=>match X3T P t with
   | some fs=>match eqF fs xs.toList ys.toList with
    | some r=>some (.bool (!r))
    | none=>none
   | none=>none
  | _=>none
 | _,_=>none
theorem X7w:∀ (fs:List Field) (xs ys:List Value) (r:Bool) {ρ:Rho} {xs' ys':List Value},eqF fs xs ys=some r→F2 (X13 ρ) xs xs'→F2 (X13 ρ) ys ys'→eqF fs xs' ys'=some r:=by
 intro fs
 induction fs with
 | nil=>intro xs ys r ρ xs' ys' h _ _;simp only [eqF]at h ⊢;exact h
 | cons f fs ih =>
  intro xs ys r ρ xs' ys' h hx hy
  cases hx with
  | nil=>simp [eqF]at h
  | cons h1 t1 =>
   cases hy with
   | nil=>simp [eqF]at h
   | cons h2 t2 =>
    simp only [eqF]at h
    split at h
    case h_2=>cases h
    have e1:=h1.eq_of_plain rfl
    have e2:=h2.eq_of_plain rfl
    subst e1 e2
    simp only [eqF]
    split at h
    case h_2=>cases h
    revert h
    generalize eqI _ _=q
    cases q
    · exact id
    · exact fun h=>ih _ _ r h t1 t2
theorem XAi {P:Program} {ρ:Rho} {op:BinOp} {t:TypeId} {ox oy:Operand} {x y x' y' v:Value} (h:XFy P op t x y=some v) (rx:X0N ρ x x') (ry:X0N ρ y y') :
  SP P ρ (do eqGuard op t ox oy x' y';binOp op t x' y') v:=by
 have core:∀ (xs ys:Array Value) (fs:List Field) (r:Bool),X3T P t=some fs→eqF fs xs.toList ys.toList=some r→(∀ w,(Op.equalIn 10000 t (.agg xs) (.agg ys)).run P w=.ok r w)∧P.eqGuardType P.depth t=false:=by
  intro xs ys fs r hf he
  unfold X3T at hf
  split at hf
  case h_2=>cases hf
  rename_i fa hu
  split at hf
  case h_2=>cases hf
  rename_i hck
  simp only [Bool.and_eq_true,Bool.not_eq_true']at hck
  cases hf
  have hfo:P.fieldsOf t=fa:=by unfold Program.fieldsOf;rw [hu]
  refine⟨fun w=>?_,hck.2⟩
  rw [run_equalIn_agg w 9999 t xs ys (by rw [hfo];exact hu) hck.1.2,hfo]
  exact XCI (d:=9998) fa.toList 0 r hck.1.1 (by simpa using he)
 unfold XFy at h
 split at h
 case h_2=>cases h
 rename_i xs ys
 obtain⟨xs',rfl,qx⟩:=rx.agg_inv
 obtain⟨ys',rfl,qy⟩:=ry.agg_inv
 split at h
 ·
  split at h
  case h_2=>cases h
  rename_i fs hf
  split at h
  case h_2=>cases h
  rename_i r he
  cases h
  obtain⟨c1,c2⟩:=core xs' ys' fs r hf (X7w _ _ _ _ he qx qy)
  refine⟨.bool r,fun w=>?_,.plain rfl⟩
  rw [Sem.run_bind,run_eqGuard_agg w _ _ _ _ _ _ c2,Result.andThen_ok,run_eql_struct,c1]
  rfl
 ·
  split at h
  case h_2=>cases h
  rename_i fs hf
  split at h
  case h_2=>cases h
  rename_i r he
  cases h
  obtain⟨c1,c2⟩:=core xs' ys' fs r hf (X7w _ _ _ _ he qx qy)
  refine⟨.bool (!r),fun w=>?_,.plain rfl⟩
  rw [Sem.run_bind,run_eqGuard_agg w _ _ _ _ _ _ c2,Result.andThen_ok,run_neq_struct,c1]
  rfl
 · cases h
def X4K (P:Program) (op:BinOp) (t:TypeId) (ox oy:Operand) (x y:Value):Option Value :=
 match X01 x && X01 y with
 | true=>X1B P (do eqGuard op t ox oy x y;binOp op t x y)
 | false=>match X5Z P t x y with
  | true=>match op with
   | .eql=>some (.bool false)
   | .neq=>some (.bool true)
   | _=>none
  | false=>none
theorem eqIn1 {P:Program} {d:Nat} {t e:TypeId} {a:Addr} (hu:P.underlying t=some (.pointer e)) (w:World):(Op.equalIn (d+1) t (.pointer (some a)) (.pointer none)).run P w=.ok false w:=by
 simp only [Op.equalIn,Sem.run_bind,X00 hu,Result.andThen_ok];rfl
theorem eqIn2 {P:Program} {d:Nat} {t e:TypeId} {a:Addr} (hu:P.underlying t=some (.pointer e)) (w:World):(Op.equalIn (d+1) t (.pointer none) (.pointer (some a))).run P w=.ok false w:=by
 simp only [Op.equalIn,Sem.run_bind,X00 hu,Result.andThen_ok];rfl
theorem eqIn3 {P:Program} {d:Nat} {t e:TypeId} {a:Addr} {n c n2 c2:Nat} (hu:P.underlying t=some (.slice e)) (w:World):(Op.equalIn (d+1) t (.slice (some a) n c) (.slice none n2 c2)).run P w=.ok false w:=by
 simp only [Op.equalIn,Sem.run_bind,X00 hu,Result.andThen_ok];rfl
theorem eqIn4 {P:Program} {d:Nat} {t e:TypeId} {a:Addr} {n c n2 c2:Nat} (hu:P.underlying t=some (.slice e)) (w:World):(Op.equalIn (d+1) t (.slice none n2 c2) (.slice (some a) n c)).run P w=.ok false w:=by
 simp only [Op.equalIn,Sem.run_bind,X00 hu,Result.andThen_ok];rfl
theorem eqIn5 {P:Program} {d:Nat} {t:TypeId} {ps rs:Array TypeId} {vr:Bool} {f:Fn} {a b:Array Value} (hu:P.underlying t=some (.func ps rs vr)) (w:World):(Op.equalIn (d+1) t (.func f a b) .nilFunc).run P w=.ok false w:=by
 simp only [Op.equalIn,Sem.run_bind,X00 hu,Result.andThen_ok];rfl
def X4L (P:Program) (t:TypeId) (x y:Value):Prop :=
 ∀ w,(Op.equal t x y).run P w=.ok false w∧(∀ op ox oy,(eqGuard op t ox oy x y).run P w=.ok () w)∧binOp .eql t x y=(do pure (.bool (← Op.equal t x y)))∧binOp .neq t x y=(do pure (.bool (!(← Op.equal t x y))))
theorem XDw {P:Program} {t e:TypeId} {a:Addr} (hu:P.underlying t=some (.pointer e)):X4L P t (.pointer (some a)) (.pointer none):=by
 intro w;refine⟨eqIn1 (d:=9999) hu w,fun op ox oy=>?_,rfl,rfl⟩;unfold eqGuard;split<;>rfl
theorem XDx {P:Program} {t e:TypeId} {a:Addr} (hu:P.underlying t=some (.pointer e)):X4L P t (.pointer none) (.pointer (some a)):=by
 intro w;refine⟨eqIn2 (d:=9999) hu w,fun op ox oy=>?_,rfl,rfl⟩;unfold eqGuard;split<;>rfl
theorem XDy {P:Program} {t e:TypeId} {a:Addr} {n c n2 c2:Nat} (hu:P.underlying t=some (.slice e)):X4L P t (.slice (some a) n c) (.slice none n2 c2):=by
 intro w;refine⟨eqIn3 (d:=9999) hu w,fun op ox oy=>?_,rfl,rfl⟩;unfold eqGuard;split<;>rfl
theorem XDz {P:Program} {t e:TypeId} {a:Addr} {n c n2 c2:Nat} (hu:P.underlying t=some (.slice e)):X4L P t (.slice none n2 c2) (.slice (some a) n c):=by
 intro w;refine⟨eqIn4 (d:=9999) hu w,fun op ox oy=>?_,rfl,rfl⟩;unfold eqGuard;split<;>rfl
theorem XE0 {P:Program} {t:TypeId} {ps rs:Array TypeId} {vr:Bool} {f:Fn} {a b:Array Value} (hu:P.underlying t=some (.func ps rs vr)):X4L P t (.func f a b) .nilFunc:=by
 intro w;refine⟨eqIn5 (d:=9999) hu w,fun op ox oy=>?_,rfl,rfl⟩;unfold eqGuard;split<;>rfl
theorem X0N.sliceSome {ρ:Rho} {a:Addr} {n c:Nat} {x:Value} (r:X0N ρ (.slice (some a) n c) x):∃ a' n' c',x=.slice (some a') n' c':=by
 cases r.leaf (by simp) (by simp)with
 | plain hp=>simp [X03]at hp
 | slice=>exact⟨_,_,_,rfl⟩
 | sliceE=>exact⟨_,_,_,rfl⟩
theorem X0N.sliceNone {ρ:Rho} {n c:Nat} {x:Value} (r:X0N ρ (.slice none n c) x):∃ n' c',x=.slice none n' c':=by
 cases r.leaf (by simp) (by simp)with
 | plain hp=>exact⟨_,_,rfl⟩
theorem X0N.ptrSome {ρ:Rho} {a:Addr} {x:Value} (r:X0N ρ (.pointer (some a)) x):∃ a',x=.pointer (some a'):=by
 cases r.leaf (by simp) (by simp)with
 | plain hp=>simp [X03]at hp
 | ptr=>exact⟨_,rfl⟩
theorem X0N.funcSome {ρ:Rho} {f:Fn} {a b:Array Value} {x:Value} (r:X0N ρ (.func f a b) x):∃ f' a' b',x=.func f' a' b':=by
 cases r.leaf (by simp) (by simp)with
 | plain hp=>exact⟨_,_,_,rfl⟩
 | func=>exact⟨_,_,_,rfl⟩
 | yld=>exact⟨_,_,_,rfl⟩
theorem X0N.funcF {ρ:Rho} {f:FuncId} {a b:Array Value} {x:Value} (r:X0N ρ (.func (.func f) a b) x):∃ a' b',x=.func (.func f) a' b':=by
 cases r.leaf (by simp) (by simp)with
 | plain hp=>exact⟨_,_,rfl⟩
 | func=>exact⟨_,_,rfl⟩
theorem X0N.funcY {ρ:Rho} {f:Nat} {a b:Array Value} {x:Value} (r:X0N ρ (.func (.yield f) a b) x):∃ I,ρ f=some I∧x=.func (.yield I.g) #[] #[]:=by
 cases r.leaf (by simp) (by simp)with
 | plain hp=>simp [X03]at hp
 | yld h=>exact⟨_,h,rfl⟩
theorem X6Q {P:Program} {ρ:Rho} {t:TypeId} {x y x' y':Value} (h:X5Z P t x y=true) (rx:X0N ρ x x') (ry:X0N ρ y y'):X4L P t x' y':=by
 unfold X5Z at h
 split at h
 ·
  split at h
  case h_2=>cases h
  rename_i e hu
  have:=ry.eq_of_plain rfl;subst this
  obtain⟨a',rfl⟩:=rx.ptrSome
  exact XDw hu
 ·
  split at h
  case h_2=>cases h
  rename_i e hu
  have:=rx.eq_of_plain rfl;subst this
  obtain⟨a',rfl⟩:=ry.ptrSome
  exact XDx hu
 ·
  split at h
  case h_2=>cases h
  rename_i e hu
  obtain⟨_,_,rfl⟩:=ry.sliceNone
  obtain⟨_,_,_,rfl⟩:=rx.sliceSome
  exact XDy hu
 ·
  split at h
  case h_2=>cases h
  rename_i e hu
  obtain⟨_,_,rfl⟩:=rx.sliceNone
  obtain⟨_,_,_,rfl⟩:=ry.sliceSome
  exact XDz hu
 ·
  split at h
  case h_2=>cases h
  rename_i e hu
  have:=ry.eq_of_plain rfl;subst this
  obtain⟨_,_,_,rfl⟩:=rx.funcSome
  exact XE0 hu
 · cases h
def X2b (P:Program) (op:BinOp) (t:TypeId) (ox oy:Operand) (x y:Value):Option Value :=
 match XA3 op x y with
 | some v=>some v
 | none=>match XFy P op t x y with
  | some v=>some v
  | none=>X4K P op t ox oy x y
theorem X95 {P:Program} {ρ:Rho} {op:BinOp} {t:TypeId} {ox oy:Operand} {x y x' y' v:Value} (h:X4K P op t ox oy x y=some v) (rx:X0N ρ x x') (ry:X0N ρ y y') :
  SP P ρ (do eqGuard op t ox oy x' y';binOp op t x' y') v:=by
 unfold X4K at h
 split at h
 ·
  rename_i hp
  simp only [Bool.and_eq_true]at hp
  have:=rx.eq_of_cellsPlain hp.1;subst this
  have:=ry.eq_of_cellsPlain hp.2;subst this
  exact X0i h
 ·
  split at h
  case h_2=>cases h
  rename_i hn
  split at h
  ·
   cases h
   refine⟨.bool false,fun w=>?_,.plain rfl⟩
   obtain⟨h1,h2,h3,h4⟩:=X6Q hn rx ry w
   simp [h1,h2,h3]
  ·
   cases h
   refine⟨.bool true,fun w=>?_,.plain rfl⟩
   obtain⟨h1,h2,h3,h4⟩:=X6Q hn rx ry w
   simp [h1,h2,h4]
  · cases h
theorem XAj {P:Program} {ρ:Rho} {op:BinOp} {t:TypeId} {ox oy:Operand} {x y x' y' v:Value} (h:X2b P op t ox oy x y=some v) (rx:X0N ρ x x') (ry:X0N ρ y y') :
  SP P ρ (do eqGuard op t ox oy x' y';binOp op t x' y') v:=by
 unfold X2b at h
 split at h
 · rename_i u hu;cases h;exact XAh hu rx ry
 ·
  split at h
  · rename_i u hu;cases h;exact XAi hu rx ry
  · exact X95 h rx ry
def X1x:Value→Option (List Value)
 | .agg cs=>some cs.toList
 | .tuple _=>none
 | v=>some [v]
theorem X3D {ρ:Rho} {v v':Value} {l:List Value} (h:X1x v=some l) (r:X0N ρ v v'):F2 (X13 ρ) l v'.cells.toList:=by
 cases r with
 | one k=>cases k with
  | one k =>
   have:l=[v]∧v'.cells=#[v']:=by
    cases k with
    | plain hp=>cases v<;>simp [X1x,X03]at h hp ⊢<;>first | exact⟨h.symm,rfl⟩ | contradiction
    | ptr=>simp [X1x]at h;exact⟨h.symm,rfl⟩
    | slice=>simp [X1x]at h;exact⟨h.symm,rfl⟩
    | sliceE=>simp [X1x]at h;exact⟨h.symm,rfl⟩
    | func=>simp [X1x]at h;exact⟨h.symm,rfl⟩
    | yld=>simp [X1x]at h;exact⟨h.symm,rfl⟩
   rw [this.1,this.2];exact .cons k .nil
  | agg k=>simp only [X1x,Option.some.injEq]at h;subst h;exact k
 | tuple k=>cases h
def lay (l:List Value):Nat→List Value→List Value
 | _,[]=>l
 | i,v::vs=>lay (l.set i v) (i+1) vs
theorem X6R:∀ (vs l:List Value) (i:Nat),(lay l i vs).length=l.length:=by
 intro vs
 induction vs with
 | nil=>intro l i;rfl
 | cons v vs ih=>intro l i;rw [lay,ih,List.length_set]
theorem F2.lay {ρ:Rho} {vs vs':List Value} (h:F2 (X13 ρ) vs vs'):∀ {l l':List Value} (i:Nat),F2 (X13 ρ) l l'→F2 (X13 ρ) (lay l i vs) (Vai.lay l' i vs'):=by
 induction h with
 | nil=>intro l l' i k;exact k
 | cons h t ih=>intro l l' i k;exact ih (i+1) (k.set i _ _ h)
theorem XCJ:∀ (vs:List Value) (cs:Array Value) (off k:Nat),((vs.zipIdx k).foldl (fun cs (x:Value×Nat)=>cs.setIfInBounds (off+x.2) x.1) cs).toList=lay cs.toList (off+k) vs:=by
 intro vs
 induction vs with
 | nil=>intro cs off k;rfl
 | cons v vs ih =>
  intro cs off k
  simp only [List.zipIdx_cons,List.foldl_cons]
  rw [ih,lay]
  simp [Nat.add_assoc]
def X3l (place:Nat→Option (Nat×Nat)) (cells:List Value):List (Nat×Value)→Option (List Value)
 | []=>some cells
 | (i,v)::rest =>
  match place i,X1x v with
  | some (off,size),some l=>match Nat.beq l.length size && Nat.ble (off+size) cells.length with
   | true=>X3l place (lay cells off l) rest
   | false=>none
  | _,_=>none
theorem X2n {ρ:Rho} {place:Nat→Option (Nat×Nat)}:∀ (parts parts':List (Nat×Value)) (cells l:List Value) (cells':Array Value),X3l place cells parts=some l →
  F2 (fun p p'=>p.1=p'.1∧X0N ρ p.2 p'.2) parts parts'→F2 (X13 ρ) cells cells'.toList→∃ l',Instr.fill place cells' parts'=some l'∧F2 (X13 ρ) l l'.toList∧l.length=cells.length:=by
 intro parts
 induction parts with
 | nil =>
  intro parts' cells l cells' h hp hc
  cases hp
  simp only [X3l,Option.some.injEq]at h
  subst h
  exact⟨cells',rfl,hc,rfl⟩
 | cons p parts ih =>
  intro parts' cells l cells' h hp hc
  obtain⟨i,v⟩:=p
  cases hp with
  | cons h0 ht =>
   rename_i p' parts'
   obtain⟨i',v'⟩:=p'
   obtain⟨e1,rv⟩:=h0
   simp only at e1 rv
   subst e1
   simp only [X3l]at h
   split at h
   case h_2=>cases h
   rename_i off size vl hpl hvl
   split at h
   case h_2=>cases h
   rename_i hck
   simp only [Bool.and_eq_true,Nat.ble_eq]at hck
   have hls:vl.length=size:=Nat.eq_of_beq_eq_true hck.1
   have hcl:=X3D hvl rv
   have e2:v'.cells.size=size:=by have:=hcl.length;simp at this;omega
   have e3:cells.length=cells'.size:=by have:=hc.length;simpa using this
   have hfold:(v'.cells.zipIdx.foldl (fun cs (x:Value×Nat)=>cs.setIfInBounds (off+x.2) x.1) cells').toList=lay cells'.toList off v'.cells.toList:=by
    rw [← Array.foldl_toList,Array.toList_zipIdx]
    exact XCJ v'.cells.toList cells' off 0
   have:=ih parts' (lay cells off vl) l (v'.cells.zipIdx.foldl (fun cs (x:Value×Nat)=>cs.setIfInBounds (off+x.2) x.1) cells') h ht (by rw [hfold];exact hcl.lay off hc)
   obtain⟨l',q1,q2,q3⟩:=this
   refine⟨l',?_,q2,by rw [q3,X6R]⟩
   simp only [Instr.fill,hpl]
   rw [if_neg]
   · exact q1
   · simp;omega
end
end Go.Vai
namespace Go.Vai
noncomputable section
def SM (P:Program) (ρ:Rho) (w:World) (s:Sem Value) (v:Value) (h':Heap):Prop :=
 ∃ v' ρ' w',s.run P w=.ok v' w'∧X0N ρ' v v'∧X0f ρ' h' w'∧X2H ρ ρ' w∧Fr ρ w w'
theorem SP.toSM {P:Program} {ρ:Rho} {h:Heap} {w:World} {s:Sem Value} {v:Value} (k:SP P ρ s v) (H:X0f ρ h w):SM P ρ w s v h:=by
 obtain⟨v',h1,h2⟩:=k
 exact⟨v',ρ,w,h1 w,h2,H,.refl _ _,.refl _ _⟩
theorem Fr.alloc (ρ:Rho) (w:World) (o:Obj):Fr ρ w (w.alloc o) :=
 ⟨rfl,rfl,rfl,by simp,fun k hk _=>by
  show(w.heap.push o)[k]?=w.heap[k]?
  rw [Array.getElem?_push,if_neg (by omega)]⟩
theorem X2c {w:World} {o:Obj} {g:Nat} {r:Obj} (h:w.heap[g]?=some r):(w.alloc o).heap[g]?=some r:=by
 have hlt:g<w.heap.size:=(Array.getElem?_eq_some_iff.1 h).1
 show(w.heap.push o)[g]?=_
 rw [Array.getElem?_push,if_neg (by omega)];exact h
theorem X2H.upd {ρ:Rho} {h:Heap} {w:World} (H:X0f ρ h w) (I:Img) (hg:w.heap.size≤I.g∨∃ b₀ I₀,ρ b₀=some I₀∧I₀.g=I.g) (hz:I.z=none):X2H ρ (upd ρ h.next I) w :=
 ⟨H.ext_upd I,fun b J e=>by
  by_cases hb:b=h.next
  · subst hb;rw [X0M]at e;cases e;exact hg
  · rw [X0U _ _ _ hb]at e;exact .inr ⟨b,J,e,rfl⟩,fun b J e n=>by
  by_cases hb:b=h.next
  · subst hb;rw [X0M]at e;cases e;exact absurd hz n
  · rw [X0U _ _ _ hb]at e;exact e⟩
theorem cell?_new (w:World) (arr:Array Value) (et:TypeId) (j:Nat):(w.alloc (.cells arr et)).cell? ⟨w.heap.size,j,none⟩=arr[j]?:=by
 simp [World.cell?,World.alloc,-World.alloc_eq]
theorem frozen?_new (w:World) (arr:Array Value) (et:TypeId) (j:Nat):(w.alloc (.cells arr et)).frozen? ⟨w.heap.size,j,none⟩=false:=by
 simp [World.frozen?,World.alloc,-World.alloc_eq]
theorem X0V {ρ:Rho} {h:Heap} {w:World} (H:X0f ρ h w) {b:Nat} {I:Img} (e:ρ b=some I):I.g<w.heap.size:=by
 obtain⟨B,C,d1,_⟩:=H.dom b I e
 exact(H.img b I B e d1).1
theorem XA5 {ρ:Rho} {h:Heap} {w:World} (H:X0f ρ h w) {o:Obj} {o' m e:Nat} {z:Option (Obj×Nat)}:(∀ k,TG k→k<w.heap.size→(w.alloc o).heap[k]?=w.heap[k]?)∧¬ TG (Img.mk w.heap.size o' m e z).g :=
 ⟨fun k _ hk=>by
  show(w.heap.push o)[k]?=_
  rw [Array.getElem?_push,if_neg (by omega)],fun t=>Nat.lt_irrefl _ (H.nx.1.lt t)⟩
theorem X3E {ρ:Rho} {h h':Heap} {w:World} (H:X0f ρ h w) {cells:Tr Value} {size esz b:Nat} (e:h.new cells size esz=some (b,h')) (arr:Array Value) (et:TypeId) (hs:size≤arr.size)
  (hc:∀ i v,i<size→cells.get i=some v→∃ v',arr[i]?=some v'∧X13 ρ v v') :
  ∃ ρ',ρ' b=some ⟨w.heap.size,0,arr.size,esz,none⟩∧X0f ρ' h' (w.alloc (.cells arr et))∧X2H ρ ρ' w∧Fr ρ w (w.alloc (.cells arr et)):=by
 unfold Heap.new at e
 split at e
 case h_2=>cases e
 rename_i hn
 have hn:True:=trivial
 simp only [Option.some.injEq,Prod.mk.injEq]at e
 obtain⟨rfl,rfl⟩:=e
 refine⟨upd ρ h.next ⟨w.heap.size,0,arr.size,esz,none⟩,X0M _ _ _,?_,X2H.upd H _ (.inl (Nat.le_refl _)) rfl,Fr.alloc ρ w _⟩
 have old:∀ b J,ρ b=some J→∀ i,(w.alloc (.cells arr et)).cell? ⟨J.g,i,none⟩=w.cell? ⟨J.g,i,none⟩:=fun b J e i =>
  World.cell?_alloc_lt w _ _ (X0V H e)
 refine H.add cells size esz h.next h.next _ ⟨w.heap.size,0,arr.size,esz,none⟩ (XA5 H) (Nat.le_refl _) (by simp) (by simp) ?_ ?_ rfl (by simpa using hs) ?_ ?_ ?_ ?_ ?_ ?_ (fun g r _ hh=>X2c hh) rfl (fun _ _ _ _ _ _ _ hh=>X2c hh)
 ·
  intro j _ hj
  exact⟨arr[j],by rw [cell?_new];exact Array.getElem?_eq_getElem hj⟩
 · intro j _ _;exact frozen?_new w arr et j
 ·
  intro i v hi hv
  obtain⟨v',h1,h2⟩:=hc i v hi hv
  exact⟨v',by rw [cell?_new,Nat.zero_add];exact h1,h2.ext (H.ext_upd _)⟩
 ·
  intro b J e j hj
  refine⟨fun⟨v,hv⟩=>⟨v,by rw [old b J e];exact hv⟩,fun hf=>?_⟩
  rw [World.frozen?_alloc_old w _ _ (Nat.ne_of_lt (X0V H e))];exact hf
 · intro b J B C e _ _ _ _ i _;exact old b J e _
 · intro b J B e _ hg;have:=X0V H e;simp at hg;omega
 ·
  intro b J B C e hB hc' _ hm
  obtain⟨B',C',d1,_,d3,_⟩:=H.dom b J e
  omega
 · intro b J B e _ _ hm;have:=X0V H e;obtain⟨_,_,_,_,d3,_⟩:=H.dom b J e;omega
def XCK (r:Option (Nat×Heap)):Option (Value×Heap):=match r with
 | some (b,h)=>some (.pointer (some ⟨b,0,none⟩),h)
 | none=>none
def X3m (l:List Value):Bool:=Nat.ble 0 l.length
def XEf (h:Heap) (v:Value):Option (Value×Heap) :=
 match X1x v with
 | some l=>match X3m l with
  | true=>XCK (h.new (X2z 0 .leaf l) l.length 0)
  | false=>none
 | none=>none
theorem X1n {l:List Value} (hl:X3m l=true) {i:Nat} {v:Value} (h:(X2z 0 .leaf l).get i=some v):l[i]?=some v:=by
 rw [X2I l 0 .leaf i (Nat.zero_le _)]at h
 split at h
 · simpa using h
 · cases h
theorem X7x {P:Program} {ρ:Rho} {h h':Heap} {w:World} (H:X0f ρ h w) {l:List Value} {arr:Array Value} {v:Value} (elem:TypeId) (hl:X3m l=true)
  (e:XCK (h.new (X2z 0 .leaf l) l.length 0)=some (v,h')) (r:F2 (X13 ρ) l arr.toList):SM P ρ w (do pure (.pointer (some (← newRow elem arr)))) v h':=by
 unfold XCK at e
 split at e
 case h_2=>cases e
 rename_i b h₁ hnew
 cases e
 have hlen:l.length=arr.size:=by have:=r.length;simpa using this
 obtain⟨ρ',p1,p2,p3,p4⟩:=X3E H hnew arr elem (by omega) (fun i v hi hv=>by
  obtain⟨v',q1,q2⟩:=r.get i v (X1n hl hv)
  exact⟨v',by simpa using q1,q2⟩)
 refine⟨.pointer (some ⟨w.heap.size,0,none⟩),ρ',w.alloc (.cells arr elem),?_,?_,p2,p3,p4⟩
 · simp [newRow]
 ·
  have:=X0N.ptr (i:=0) p1
  simpa using this
theorem X6S {P:Program} {ρ:Rho} {h h':Heap} {w:World} (H:X0f ρ h w) {elem:TypeId} {x x' v:Value} (e:XEf h x=some (v,h')) (r:X0N ρ x x'):SM P ρ w (Instr.box elem x') v h':=by
 unfold XEf at e
 split at e
 case h_2=>cases e
 rename_i l hl
 split at e
 case h_2=>cases e
 rename_i hs
 exact X7x (P:=P) H elem hs e (X3D hl r)
def X1o (P:Program) (t:TypeId):Option Value:=match P.info? t with
 | some i=>match i.zero with
  | some z=>match X01 z with
   | true=>some z
   | false=>none
  | none=>none
 | none=>none
theorem X1a {P:Program} {t:TypeId} {z:Value} (h:X1o P t=some z) (w:World):(zeroValue t).run P w=.ok z w:=by
 unfold X1o at h
 split at h
 case h_2=>cases h
 rename_i i hi
 split at h
 case h_2=>cases h
 rename_i z' hz
 split at h
 case h_2=>cases h
 cases h
 simp only [zeroValue,Sem.run_bind,X0Q hi,Result.andThen_ok,hz];rfl
theorem X0W {P:Program} {t:TypeId} {z:Value} (h:X1o P t=some z):X01 z=true:=by
 unfold X1o at h
 split at h
 case h_2=>cases h
 split at h
 case h_2=>cases h
 split at h
 case h_2=>cases h
 rename_i hp
 cases h;exact hp
def X6T (P:Program) (h:Heap) (elem:TypeId):Option (Value×Heap) :=
 match X1o P elem with
 | some z=>XEf h z
 | none=>none
theorem X7y {P:Program} {ρ:Rho} {h h':Heap} {w:World} (H:X0f ρ h w) {elem:TypeId} {v:Value} (e:X6T P h elem=some (v,h')):SM P ρ w (Instr.alloc elem true (.tuple #[])) v h':=by
 unfold X6T at e
 split at e
 case h_2=>cases e
 rename_i z hz
 have:=X6S (P:=P) H (elem:=elem) e (.of_cellsPlain (X0W hz))
 obtain⟨v',ρ',w',h1,h2⟩:=this
 refine⟨v',ρ',w',?_,h2⟩
 simp only [Instr.alloc,Sem.run_bind,X1a hz,Result.andThen_ok]
 exact h1
def X02 (z:Array Value) (n:Nat):List Value:=(List.range n).map (z[· % z.size]!)
theorem X17 (z:Array Value) (n:Nat):((Array.range n).map (z[· % z.size]!)).toList=X02 z n:=by
 simp [X02]
theorem X0p {z:Array Value} (hz:z.toList.all X03=true) {n:Nat} (hn:n=0∨0<z.size) {ρ:Rho}:F2 (X13 ρ) (X02 z n) (X02 z n):=by
 refine F2.refl _ fun a ha=>?_
 simp only [X02,List.mem_map,List.mem_range]at ha
 obtain⟨i,hi,rfl⟩:=ha
 have hzs:0<z.size:=by omega
 have hlt:i % z.size<z.size:=Nat.mod_lt _ hzs
 refine .plain ?_
 rw [getElem!_pos z _ hlt]
 exact List.all_eq_true.1 hz _ (by simp)
def X0n (n c:Nat) (r:Option (Nat×Heap)):Option (Value×Heap):=match r with
 | some (b,h)=>some (.slice (some ⟨b,0,none⟩) n c,h)
 | none=>none
theorem X1S {z:Value} (h:X01 z=true):z.cells.toList.all X03=true:=by
 cases z<;>first | exact h | (simp [X01,Value.cells]at h ⊢;exact h) | (simp [X01,X03]at h)
def X1D (P:Program) (h:Heap) (t:TypeId) (len:Nat) (parts:List (Nat×Value)):Option (Value×Heap) :=
 match P.underlying t with
 | some (.slice elem)=>match sz P elem,X1o P elem with
  | some size,some z =>
   match Nat.ble (len*size) 16777216 && Nat.beq z.cells.size size && Nat.blt 0 size with
   | true=>match X3l (fun i=>some (i*size,size)) (X02 z.cells (len*size)) parts with
    | some l=>X0n len len (h.new (X2z 0 .leaf l) (len*size) size)
    | none=>none
   | false=>none
  | _,_=>none
 | _=>none
theorem X2Q {P:Program} {ρ:Rho} {h h':Heap} {w:World} (H:X0f ρ h w) {l:List Value} {arr:Array Value} {v:Value} {n c size:Nat} (elem:TypeId) (hl:X3m l=true) (hlen:l.length=c*size) (hnc:n≤c)
  (e:X0n n c (h.new (X2z 0 .leaf l) (c*size) size)=some (v,h')) (r:F2 (X13 ρ) l arr.toList):SM P ρ w (do pure (.slice (some (← newRow elem arr)) n c)) v h':=by
 unfold X0n at e
 split at e
 case h_2=>cases e
 rename_i b h₁ hnew
 cases e
 have hlen2:l.length=arr.size:=by have:=r.length;simpa using this
 obtain⟨ρ',p1,p2,p3,p4⟩:=X3E H hnew arr elem (by omega) (fun i v hi hv=>by
  obtain⟨v',q1,q2⟩:=r.get i v (X1n hl hv)
  exact⟨v',by simpa using q1,q2⟩)
 refine⟨.slice (some ⟨w.heap.size,0,none⟩) n c,ρ',w.alloc (.cells arr elem),?_,?_,p2,p3,p4⟩
 · simp [newRow]
 ·
  have:X13 ρ' (.slice (some ⟨b,0,none⟩) n c) (.slice (some ⟨w.heap.size,0+0,none⟩) n c):=X13.slice p1 hnc (Nat.le_refl _) (by simp;omega)
  exact .one (.one this)
theorem X4M {P:Program} {ρ:Rho} {h h':Heap} {w:World} (H:X0f ρ h w) {t:TypeId} {len:Nat} {parts:List (Nat×Value)} {parts':Array (Nat×Value)} {v:Value}
  (e:X1D P h t len parts=some (v,h')) (r:F2 (fun p p'=>p.1=p'.1∧X0N ρ p.2 p'.2) parts parts'.toList):SM P ρ w (Instr.buildSlice t len parts') v h':=by
 unfold X1D at e
 split at e
 case h_2=>cases e
 rename_i elem hu
 split at e
 case h_2=>cases e
 rename_i size z hs hz
 split at e
 case h_2=>cases e
 rename_i hck
 simp only [Bool.and_eq_true,Nat.ble_eq,Nat.blt_eq]at hck
 obtain⟨⟨hk1,hk2⟩,hk3⟩:=hck
 have hk2:z.cells.size=size:=Nat.eq_of_beq_eq_true hk2
 split at e
 case h_2=>cases e
 rename_i l hf
 have hzc:=X0p (ρ:=ρ) (X1S (X0W hz)) (n:=len*size) (.inr (by omega))
 rw [← X17]at hzc
 obtain⟨l',q1,q2,q3⟩:=X2n parts parts'.toList _ l ((Array.range (len*size)).map (z.cells[· % z.cells.size]!)) hf r (by
  have:=hzc;rw [X17]at this ⊢;exact this)
 have hll:l.length=len*size:=by rw [q3];simp [X02]
 obtain⟨v',ρ',w',h1,h2⟩:=X2Q (P:=P) H elem (l:=l) (arr:=l') (by simp [X3m]) hll (Nat.le_refl len) e q2
 refine⟨v',ρ',w',?_,h2⟩
 simp only [Instr.buildSlice,Sem.run_bind,X00 hu,X0g hs,Result.andThen_ok]
 rw [if_neg (by omega)]
 by_cases h0:len*size=0
 ·
  have e0:len=0:=by
   rcases Nat.mul_eq_zero.1 h0 with h | h
   · exact h
   · omega
  simp only [h0,if_true,Sem.run_pure,Result.andThen_ok,Sem.run_bind]
  have q1':Instr.fill (fun i=>some (i*size,size)) ((Array.range 0).map ((#[]:Array Value)[· % (#[]:Array Value).size]!)) parts'.toList=some l':=by
   have ea:∀ f:Nat→Value,(Array.range 0).map f=#[]:=fun f=>Array.toList_inj.1 (by simp)
   rw [← q1,h0,ea,ea]
  rw [q1']
  exact h1
 ·
  simp only [h0,if_false,Sem.run_bind,X1a hz,Sem.run_pure,Result.andThen_ok]
  rw [q1]
  exact h1
def X1U (P:Program) (h:Heap) (t:TypeId) (len cap:Value):Option (Value×Heap) :=
 match P.underlying t with
 | some (.slice elem)=>match sz P elem,X1o P elem,P.info? elem with
  | some size,some z,some i=>match len,cap with
   | .int _ l,.int _ c =>
    match decide (0≤l) && decide (l≤c) && decide (c*i.bytes≤281474976710656) && Nat.ble (c.toNat*size) 100000000 && Nat.beq z.cells.size size && Nat.blt 0 size && decide (c≤1000000000)with
    | true=>X0n l.toNat c.toNat (h.new (X2z 0 .leaf (X02 z.cells (c.toNat*size))) (c.toNat*size) size)
    | false=>none
   | _,_=>none
  | _,_,_=>none
 | _=>none
theorem X4N {n:Int} (h0:0≤n) (h1:n≤1000000000):IntKind.i64.wrap n=n:=by
 unfold IntKind.wrap
 simp [IntKind.bits,IntKind.signed]
 omega
theorem X4k {P:Program} {ρ:Rho} {h h':Heap} {w:World} (H:X0f ρ h w) {t:TypeId} {len cap len' cap':Value} {v:Value}
  (e:X1U P h t len cap=some (v,h')) (rl:X0N ρ len len') (rc:X0N ρ cap cap'):SM P ρ w (Instr.makeSlice t len' cap') v h':=by
 unfold X1U at e
 split at e
 case h_2=>cases e
 rename_i elem hu
 split at e
 case h_2=>cases e
 rename_i size z i hs hz hi
 split at e
 case h_2=>cases e
 rename_i k l k' c
 split at e
 case h_2=>cases e
 rename_i hck
 simp only [Bool.and_eq_true,Nat.ble_eq,Nat.blt_eq,decide_eq_true_eq]at hck
 obtain⟨⟨⟨⟨⟨⟨k1,k2⟩,k3⟩,k4⟩,k5⟩,k6⟩,k7⟩:=hck
 have k5:z.cells.size=size:=Nat.eq_of_beq_eq_true k5
 have:=rl.eq_of_plain rfl;subst this
 have:=rc.eq_of_plain rfl;subst this
 have hzc:=X0p (ρ:=ρ) (X1S (X0W hz)) (n:=c.toNat*size) (.inr (by omega))
 have wl:IntKind.i64.wrap l=l:=X4N k1 (by omega)
 have wc:IntKind.i64.wrap c=c:=X4N (by omega) k7
 have hbm:¬ (281474976710656<(i.bytes:Int)*c):=by rw [Int.mul_comm];omega
 by_cases h0:c.toNat*size=0
 ·
  obtain⟨v',ρ',w',h1,h2⟩:=X2Q (P:=P) H elem (l:=X02 z.cells (c.toNat*size)) (arr:=(Array.range (c.toNat*size)).map ((#[]:Array Value)[· % (#[]:Array Value).size]!)) (by simp [X3m]) (by simp [X02]) (show l.toNat≤c.toNat by omega) e (by
   rw [h0];simp [X02];exact .nil)
  refine⟨v',ρ',w',?_,h2⟩
  simp only [Instr.makeSlice,Sem.run_bind,X00 hu,X0g hs,Result.andThen_ok,asInt,asIntOf,Sem.run_pure,X0Q hi,wl,wc]
  rw [if_neg (by simp;omega)]
  simp only [Sem.run_bind,run_askRoom,Result.andThen_ok,X0g hs,if_pos h0,Sem.run_pure]
  exact h1
 ·
  obtain⟨v',ρ',w',h1,h2⟩:=X2Q (P:=P) H elem (l:=X02 z.cells (c.toNat*size)) (arr:=(Array.range (c.toNat*size)).map (z.cells[· % z.cells.size]!)) (by simp [X3m]) (by simp [X02]) (show l.toNat≤c.toNat by omega) e (by
   rw [X17];exact hzc)
  refine⟨v',ρ',w',?_,h2⟩
  simp only [Instr.makeSlice,Sem.run_bind,X00 hu,X0g hs,Result.andThen_ok,asInt,asIntOf,Sem.run_pure,X0Q hi,wl,wc]
  rw [if_neg (by simp;omega)]
  simp only [Sem.run_bind,run_askRoom,Result.andThen_ok,X0g hs,if_neg h0,X1a hz,Sem.run_pure]
  exact h1
def X44 (P:Program) (h:Heap) (t:TypeId) (a:Value):Option Value :=
 match a with
 | .pointer (some ⟨b,i,none⟩)=>match X2u P t with
  | some true=>match sz P t with
   | some n=>match h.rdL b i n with
    | some l=>some (.agg l.toArray)
    | none=>none
   | none=>none
  | some false=>h.rd b i
  | none=>none
 | _=>none
theorem X5b {P:Program} {ρ:Rho} {h:Heap} {w:World} (H:X0f ρ h w) {t:TypeId} {a a' v:Value} (e:X44 P h t a=some v) (r:X0N ρ a a'):∃ v',(Instr.loadAt t a').run P w=.ok v' w∧X0N ρ v v':=by
 unfold X44 at e
 split at e
 case h_2=>cases e
 rename_i b i
 obtain⟨I,hb,rfl⟩:=r.ptr_inv
 split at e
 ·
  rename_i ha
  split at e
  case h_2=>cases e
  rename_i n hn
  split at e
  case h_2=>cases e
  rename_i l hl
  cases e
  obtain⟨vs',q1,q2,q3⟩:=X2C H hb n i l hl
  refine⟨.agg vs'.toArray,?_,.one (.agg q3)⟩
  have:=X1Y (P:=P) (w:=w) (g:=I.g) (o:=I.o+i) (vs:=vs') q2
  rw [q1]at this
  simp [Instr.loadAt,Instr.sureAddr,loadVar,X16 ha,X0g hn,this]
 ·
  rename_i ha
  obtain⟨v',q1,q2⟩:=X9z H e hb
  exact⟨v',by simp [Instr.loadAt,Instr.sureAddr,loadVar,X16 ha,q1],.one (.one q2)⟩
 · cases e
def X7z (P:Program) (h:Heap) (t:TypeId) (a x:Value):Option Heap :=
 match a with
 | .pointer (some ⟨b,i,none⟩)=>match X1x x,sz P t with
  | some l,some n=>match Nat.beq l.length n with
   | true=>h.wrL b i l
   | false=>none
  | _,_=>none
 | _=>none
theorem X80 {P:Program} {ρ:Rho} {h h':Heap} {w:World} (H:X0f ρ h w) {t:TypeId} {a a' x x':Value} (e:X7z P h t a x=some h') (r:X0N ρ a a') (rx:X0N ρ x x') :
  ∃ w',(Instr.storeAt t a' x').run P w=.ok () w'∧X0f ρ h' w'∧Fr ρ w w':=by
 unfold X7z at e
 split at e
 case h_2=>cases e
 rename_i b i
 obtain⟨I,hb,rfl⟩:=r.ptr_inv
 split at e
 case h_2=>cases e
 rename_i l n hl hn
 split at e
 case h_2=>cases e
 rename_i hle
 have hle:l.length=n:=Nat.eq_of_beq_eq_true hle
 have hcl:=X3D hl rx
 obtain⟨p1,p2⟩:=X42 hb l x'.cells.toList h h' w i H e hcl
 refine⟨_,?_,p1,X5V hb _ _⟩
 have hsz:x'.cells.size=n:=by have:=hcl.length;simp at this;omega
 simp only [Instr.storeAt,Instr.sureAddr,storeVar,Sem.run_bind,Sem.run_pure,Result.andThen_ok,X0g hn]
 rw [if_neg (by simp [hsz])]
 exact X1L (P:=P) I.g (I.o+i) x'.cells.toList w 0 hcl.oneC (by simpa using p2)
end
end Go.Vai
namespace Go.Vai
noncomputable section
def X3F (s:ByteArray):List Value:=((s.extract 0 s.size).data.map fun b=>Value.int .u8 b.toNat).toList
def X5c (h:Heap) (e:Nat):Value→Option (Nat×List Value)
 | .slice (some ⟨b,i,none⟩) n _=>match h.rdL b i (n*e)with
  | some l=>some (n,l)
  | none=>none
 | .slice none 0 0=>some (0,[])
 | .slice (some ⟨_,_,some _⟩) 0 0=>some (0,[])
 | .string s=>some (s.size,X3F s)
 | _=>none
theorem X2v {P:Program} {ρ:Rho} {h:Heap} {w:World} (H:X0f ρ h w) {e n:Nat} {x x':Value} {l:List Value} (hx:X5c h e x=some (n,l)) (r:X0N ρ x x') :
  (∀ w,(Builtin.lenOf x').run P w=.ok n w)∧∃ l',(Builtin.firstCells e n x').run P w=.ok l'.toArray w∧F2 (X13 ρ) l l':=by
 unfold X5c at hx
 split at hx
 ·
  rename_i b i m c
  split at hx
  case h_2=>cases hx
  rename_i l₁ hl
  simp only [Option.some.injEq,Prod.mk.injEq]at hx
  obtain⟨rfl,rfl⟩:=hx
  rcases r.slice_inv with⟨I,c',hb,rfl,_⟩ | ⟨rfl,rfl,a',rfl⟩
  ·
   obtain⟨vs',q1,q2,q3⟩:=X2C H hb _ i l₁ hl
   have:=X1Y (P:=P) (w:=w) (g:=I.g) (o:=I.o+i) (vs:=vs') q2
   rw [q1]at this
   exact⟨fun _=>rfl,vs',by simp [Builtin.firstCells,this],q3⟩
  ·
   have:l₁=[]:=by have:=X27 _ _ _ hl;simpa using this
   subst this
   exact⟨fun _=>rfl,[],by simp [Builtin.firstCells,loadCells,loadCellsFrom],.nil⟩
 ·
  simp only [Option.some.injEq,Prod.mk.injEq]at hx
  obtain⟨rfl,rfl⟩:=hx
  have:=r.eq_of_plain rfl;subst this
  exact⟨fun _=>rfl,[],by simp [Builtin.firstCells],.nil⟩
 ·
  simp only [Option.some.injEq,Prod.mk.injEq]at hx
  obtain⟨rfl,rfl⟩:=hx
  obtain⟨_,_,a',rfl⟩:=r.mark_inv
  exact⟨fun _=>rfl,[],by simp [Builtin.firstCells,loadCells,loadCellsFrom],.nil⟩
 ·
  rename_i s
  simp only [Option.some.injEq,Prod.mk.injEq]at hx
  obtain⟨rfl,rfl⟩:=hx
  have:=r.eq_of_plain rfl;subst this
  refine⟨fun _=>rfl,X3F s,by simp [Builtin.firstCells,X3F];exact Array.toList_inj.1 (by simp),F2.refl _ fun a ha=>?_⟩
  simp only [X3F,Array.toList_map,List.map_eq_nil_iff,List.mem_map]at ha
  obtain⟨u,_,rfl⟩:=ha
  exact .plain rfl
 · cases hx
def X81:TypeDesc→Bool
 | .int _=>true
 | _=>false
def X82:TypeDesc→Bool
 | .int _=>false
 | _=>true
theorem X2H.undrew {ρ ρ':Rho} {w:World} (g:X2H ρ ρ' w.drew):X2H ρ ρ' w:=⟨g.ext,g.new,g.zn⟩
def X2d (h:Heap) (s:Value) (e sLen sCap n:Nat) (new:List Value):Option (Value×Heap) :=
 match Nat.ble (sLen+n) sCap with
 | true=>match s with
  | .slice none 0 0=>some (.slice none 0 0,h)
  | .slice (some ⟨_,_,some _⟩) _ _=>some (XCG,h)
  | .slice (some ⟨b,i,none⟩) _ _=>match h.blks.get b with
   | some B=>match Nat.beq B.esz e,h.wrL b (i+sLen*e) new with
    | true,some h'=>some (.slice (some ⟨b,i,none⟩) (sLen+n) sCap,h')
    | _,_=>none
   | none=>none
  | _=>none
 | false=>match s with
  | .slice none 0 0=>X0n (sLen+n) (sLen+n) (h.new (X2z 0 .leaf new) ((sLen+n)*e) e)
  | .slice (some ⟨_,_,some _⟩) _ _=>X0n (sLen+n) (sLen+n) (h.new (X2z 0 .leaf new) ((sLen+n)*e) e)
  | .slice (some ⟨b,i,none⟩) _ _=>match h.rdL b i (sLen*e),h.blks.get b with
   | some old,some B=>match Nat.beq B.esz e && Nat.blt B.cls h.next with
    | true=>X0n (sLen+n) (sLen+n) (h.grow b (Nat.beq (i+sLen*e) B.size) (X2z 0 .leaf (old++new)) ((sLen+n)*e) e)
    | false=>none
   | _,_=>none
  | _=>none
def X5d (P:Program) (h:Heap) (argTypes:Array TypeId) (s x:Value):Option (Value×Heap) :=
  match argTypes[0]?,argTypes[1]? with
  | some st,some xt=>match P.underlying st,P.underlying xt with
    | some (.slice elem),some d=>match sz P elem,X1o P elem,P.info? elem with
      | some e,some z,some i=>match X81 d with
       | true=>match s,x with
        | .slice _ sLen sCap,.int _ j =>
            match decide (0<j) && decide (j≤100000000) && Nat.ble ((sLen+j.toNat)*e) 100000000 && Nat.ble (sLen+j.toNat) 100000000 && Nat.ble i.bytes 10000 && Nat.beq z.cells.size e && Nat.blt 0 e with
            | true=>X2d h s e sLen sCap j.toNat (X02 z.cells (j.toNat*z.cells.size))
            | false=>none
        | _,_=>none
       | false=>match s with
        | .slice _ sLen sCap=>match X5c h e x with
          | some (n,new) =>
            match X82 d && Nat.ble ((sLen+n)*e) 100000000 && Nat.ble (sLen+n) 100000000 && Nat.ble i.bytes 10000 && Nat.beq z.cells.size e && Nat.blt 0 e && Nat.beq new.length (n*e)with
            | true=>X2d h s e sLen sCap n new
            | false=>none
          | none=>none
        | _=>none
      | _,_,_=>none
    | _,_=>none
  | _,_=>none
theorem XCL (need:Nat):∀ (k c:Nat),c≤2*need+200→Builtin.growBy need k c≤2*need+200:=by
 intro k
 induction k with
 | zero=>intro c h;exact h
 | succ k ih =>
  intro c h
  simp only [Builtin.growBy]
  split
  · exact h
  · exact ih _ (by omega)
theorem X6U {need c:Nat} (h:c<need):Builtin.nextslicecap need c≤2*need+200:=by
 unfold Builtin.nextslicecap
 split
 · omega
 ·
  split
  · omega
  · exact XCL need 4 c (by omega)
theorem X5e {P : Program} {w : World} {argTypes : Array TypeId} {ty st xt elem : TypeId} {d : TypeDesc} {e n sLen c : Nat} {base : Option Addr} {x : Value} {new : List Value}
    (h0:argTypes[0]?=some st) (h1:argTypes[1]?=some xt) (hs:P.underlying st=some (.slice elem)) (hx:P.underlying xt=some d) (hd:X82 d=true)
    (he:sz P elem=some e) (hlen:∀ w,(Builtin.lenOf x).run P w=.ok n w) (hnew:(Builtin.firstCells e n x).run P w=.ok new.toArray w) (hfit:sLen+n≤c) :
    (Builtin.append_ argTypes ty #[.slice base sLen c,x]).run P w=(match base with
      | some a=>(storeCells (a.add (sLen*e)) new).run P w
      | none=>.ok () w).andThen fun _ w'=>.ok (.slice base (sLen+n) c) w':=by
  unfold Builtin.append_
  simp only [h0,List.getElem?_toArray,List.getElem?_cons_zero,List.getElem?_cons_succ,h1,Sem.run_bind,X00 hs,X00 hx,Result.andThen_ok,X0g he,Sem.run_pure]
  cases d<;>first
    | (cases hd;done)
    | (simp only [Sem.run_pure, Result.andThen_ok, Bool.false_eq_true, if_false, hlen, hfit, if_true, Sem.run_bind, Bool.not_false, hnew]
       cases base<;>simp)
theorem X4l {P : Program} {w : World} {argTypes : Array TypeId} {ty st xt elem : TypeId} {d : TypeDesc} {e n sLen c : Nat} {base : Option Addr} {x z : Value} {i : TypeInfo} {old new : List Value}
    (h0:argTypes[0]?=some st) (h1:argTypes[1]?=some xt) (hs:P.underlying st=some (.slice elem)) (hx:P.underlying xt=some d) (hd:X82 d=true)
    (he:sz P elem=some e) (hi:P.info? elem=some i) (hz:X1o P elem=some z) (hlen:∀ w,(Builtin.lenOf x).run P w=.ok n w) (hnew:(Builtin.firstCells e n x).run P w.drew=.ok new.toArray w.drew)
    (hold:(Builtin.firstCells e sLen (.slice base sLen c)).run P w.drew=.ok old.toArray w.drew) (hfit:¬ sLen+n≤c) (hb:i.bytes≤10000) (hn:sLen+n≤100000000) :
    (Builtin.append_ argTypes ty #[.slice base sLen c,x]).run P w=.ok (.slice (some ⟨w.heap.size,0,none⟩) (sLen+n) (grownCap w (sLen+n) c elem))
      (w.drew.alloc (.cells (old.toArray++new.toArray++Builtin.zeroCells z.cells (grownCap w (sLen+n) c elem - (sLen+n))) elem)):=by
  have hcap:¬ (Builtin.nextslicecap (sLen+n) c*i.bytes>2 ^ 48):=by
    have h1:=X6U (need:=sLen+n) (c:=c) (by omega)
    have h2:Builtin.nextslicecap (sLen+n) c*i.bytes≤(2*(sLen+n)+200)*10000:=Nat.mul_le_mul h1 hb
    omega
  have hmax:¬ (((sLen+n:Nat):Int)>IntKind.i64.max):=by
    have:IntKind.i64.max=9223372036854775807:=by decide
    rw [this];omega
  unfold Builtin.append_
  simp only [h0,List.getElem?_toArray,List.getElem?_cons_zero,List.getElem?_cons_succ,h1,Sem.run_bind,X00 hs,X00 hx,Result.andThen_ok,X0g he,Sem.run_pure]
  cases d<;>first
    | (cases hd;done)
    | (simp only [Sem.run_pure, Result.andThen_ok, Bool.false_eq_true, if_false, hlen, hfit, Sem.run_bind, X0Q hi, hmax, false_and, hcap, run_choose, Question.forced, run_askRoom, World.drew_eq, hold, Bool.not_false, if_true, hnew, X1a hz, newRow, run_newObj, World.alloc_eq, World.size_drew]
       rfl)
theorem X4m {P : Program} {w : World} {argTypes : Array TypeId} {ty st xt elem : TypeId} {d : TypeDesc} {e sLen c : Nat} {j : Int} {k : IntKind} {base : Option Addr} {z : Value} {i : TypeInfo}
    (h0:argTypes[0]?=some st) (h1:argTypes[1]?=some xt) (hs:P.underlying st=some (.slice elem)) (hx:P.underlying xt=some d) (hd:X81 d=true)
    (he:sz P elem=some e) (hi:P.info? elem=some i) (hz:X1o P elem=some z) (hj0:0<j) (hj1:j≤100000000) (he0:0<e) (hb:i.bytes≤10000) (hfit:sLen+j.toNat≤c) :
    (Builtin.append_ argTypes ty #[.slice base sLen c,.int k j]).run P w=(match base with
      | some a=>(storeCells (a.add (sLen*e)) (Builtin.zeroCells z.cells j.toNat).toList).run P w
      | none=>.ok () w).andThen fun _ w'=>.ok (.slice base (sLen+j.toNat) c) w':=by
  have hw:IntKind.i64.wrap j=j:=X4N (by omega) (by omega)
  have hbm:¬ (j*(i.bytes:Int)>2 ^ 48):=by
    have:j*(i.bytes:Int)≤100000000*10000:=Int.mul_le_mul hj1 (by omega) (by omega) (by omega)
    omega
  have hnz:¬ j.toNat*e=0:=by
    intro hx
    rcases Nat.mul_eq_zero.1 hx with h | h<;>omega
  have hneg:¬ j<0:=by omega
  unfold Builtin.append_
  simp only [h0,List.getElem?_toArray,List.getElem?_cons_zero,List.getElem?_cons_succ,h1,Sem.run_bind,X00 hs,X00 hx,Result.andThen_ok,X0g he,Sem.run_pure]
  cases d<;>first
    | (cases hd;done)
    | (simp only [Sem.run_pure, Result.andThen_ok, if_true, asInt, asIntOf, hw, hneg, if_false, X0Q hi, hbm, hfit, Sem.run_bind, Bool.not_true, Bool.false_eq_true, hnz, X1a hz]
       cases base<;>simp)
theorem X4O {P : Program} {w : World} {argTypes : Array TypeId} {ty st xt elem : TypeId} {d : TypeDesc} {e sLen c : Nat} {j : Int} {k : IntKind} {base : Option Addr} {z : Value} {i : TypeInfo} {old : List Value}
    (h0:argTypes[0]?=some st) (h1:argTypes[1]?=some xt) (hs:P.underlying st=some (.slice elem)) (hx:P.underlying xt=some d) (hd:X81 d=true)
    (he:sz P elem=some e) (hi:P.info? elem=some i) (hz:X1o P elem=some z) (hj0:0<j) (hj1:j≤100000000) (he0:0<e)
    (hold:(Builtin.firstCells e sLen (.slice base sLen c)).run P w.drew=.ok old.toArray w.drew) (hfit:¬ sLen+j.toNat≤c) (hb:i.bytes≤10000) (hn:sLen+j.toNat≤100000000) :
    (Builtin.append_ argTypes ty #[.slice base sLen c,.int k j]).run P w=.ok (.slice (some ⟨w.heap.size,0,none⟩) (sLen+j.toNat) (grownCap w (sLen+j.toNat) c elem))
      (w.drew.alloc (.cells (old.toArray++(Builtin.zeroCells z.cells j.toNat)++Builtin.zeroCells z.cells (grownCap w (sLen+j.toNat) c elem - (sLen+j.toNat))) elem)):=by
  have hw:IntKind.i64.wrap j=j:=X4N (by omega) (by omega)
  have hbm:¬ (j*(i.bytes:Int)>2 ^ 48):=by
    have:j*(i.bytes:Int)≤100000000*10000:=Int.mul_le_mul hj1 (by omega) (by omega) (by omega)
    omega
  have hnz:¬ j.toNat*e=0:=by
    intro hx
    rcases Nat.mul_eq_zero.1 hx with h | h<;>omega
  have hneg:¬ j<0:=by omega
  have hcap:¬ (Builtin.nextslicecap (sLen+j.toNat) c*i.bytes>2 ^ 48):=by
    have h1:=X6U (need:=sLen+j.toNat) (c:=c) (by omega)
    have h2:Builtin.nextslicecap (sLen+j.toNat) c*i.bytes≤(2*(sLen+j.toNat)+200)*10000:=Nat.mul_le_mul h1 hb
    omega
  have hmax:¬ (((sLen+j.toNat:Nat):Int)>IntKind.i64.max):=by
    have:IntKind.i64.max=9223372036854775807:=by decide
    rw [this];omega
  unfold Builtin.append_
  simp only [h0,List.getElem?_toArray,List.getElem?_cons_zero,List.getElem?_cons_succ,h1,Sem.run_bind,X00 hs,X00 hx,Result.andThen_ok,X0g he,Sem.run_pure]
  cases d<;>first
    | (cases hd;done)
    | (simp only [Sem.run_pure, Result.andThen_ok, if_true, asInt, asIntOf, hw, hneg, if_false, X0Q hi, hbm, hfit, Sem.run_bind, Bool.not_true, Bool.false_eq_true, hnz, hmax, false_and, hcap, run_choose, Question.forced, run_askRoom, World.drew_eq, hold, X1a hz, newRow, run_newObj_alloc]
       rfl)
theorem XAk {ρ:Rho} {h h':Heap} {w:World} (H:X0f ρ h w) {cells:Tr Value} {size esz b id:Nat} {atEnd:Bool} {B:Blk} (hB:h.blks.get b=some B) (hcl:B.cls<h.next)
  (e:h.grow b atEnd cells size esz=some (id,h')) (arr:Array Value) (et:TypeId) (hs:size≤arr.size)
  (hc:∀ i v,i<size→cells.get i=some v→∃ v',arr[i]?=some v'∧X13 ρ v v') :
  ∃ ρ',ρ' id=some ⟨w.heap.size,0,arr.size,esz,none⟩∧X0f ρ' h' (w.alloc (.cells arr et))∧X2H ρ ρ' w∧Fr ρ w (w.alloc (.cells arr et)):=by
 unfold Heap.grow at e
 rw [hB]at e
 simp only at e
 split at e
 case h_1=>cases e
 rename_i C hC
 split at e
 case h_2=>cases e
 rename_i hn
 simp only [Bool.and_eq_true,Nat.blt_eq]at hn
 have hn:=hn.1
 simp only [Option.some.injEq,Prod.mk.injEq]at e
 obtain⟨rfl,rfl⟩:=e
 refine⟨upd ρ h.next ⟨w.heap.size,0,arr.size,esz,none⟩,X0M _ _ _,?_,X2H.upd H _ (.inl (Nat.le_refl _)) rfl,Fr.alloc ρ w _⟩
 have old:∀ b J,ρ b=some J→∀ i,(w.alloc (.cells arr et)).cell? ⟨J.g,i,none⟩=w.cell? ⟨J.g,i,none⟩:=fun b J e i =>
  World.cell?_alloc_lt w _ _ (X0V H e)
 refine H.add cells size esz B.cls _ _ ⟨w.heap.size,0,arr.size,esz,none⟩ (XA5 H) (Nat.le_of_lt hcl) (by simp) (by simp) ?_ ?_ rfl (by simpa using hs) ?_ ?_ ?_ ?_ ?_ ?_ (fun g r _ hh=>X2c hh) rfl (fun _ _ _ _ _ _ _ hh=>X2c hh)
 ·
  intro j _ hj
  exact⟨arr[j],by rw [cell?_new];exact Array.getElem?_eq_getElem hj⟩
 · intro j _ _;exact frozen?_new w arr et j
 ·
  intro i v hi hv
  obtain⟨v',h1,h2⟩:=hc i v hi hv
  exact⟨v',by rw [cell?_new,Nat.zero_add];exact h1,h2.ext (H.ext_upd _)⟩
 ·
  intro b J e j hj
  refine⟨fun⟨v,hv⟩=>⟨v,by rw [old b J e];exact hv⟩,fun hf=>?_⟩
  rw [World.frozen?_alloc_old w _ _ (Nat.ne_of_lt (X0V H e))];exact hf
 · intro b J B C e _ _ _ _ i _;exact old b J e _
 · intro b J B e _ hg;have:=X0V H e;simp at hg;omega
 ·
  intro b₂ J B₂ C₂ e hB₂ hc₂ hC₂ hm
  rw [hC]at hC₂;cases hC₂
  split at hm
  · exact hm
  · obtain⟨_,_,_,_,d3,_⟩:=H.dom b₂ J e;omega
 · intro b J B e _ _ hm hg;have:=X0V H e;simp at hg;omega
theorem X83 {ρ:Rho} {h h':Heap} {w:World} (H:X0f ρ h w) {b id i:Nat} {atEnd:Bool} {B:Blk} {I:Img} {old new old' new':List Value} {size:Nat} (hB:h.blks.get b=some B) (hb:ρ b=some I) (hro:B.ro=false)
  (hat:atEnd=true→i+old.length=B.size) (hsize:size=old.length+new.length) (hsh:size<1000000000) (hroom:I.o+i+size≤I.m)
  (e:h.grow b atEnd (X2z 0 .leaf (old++new)) size I.e=some (id,h'))
  (rold:F2 (X13 ρ) old old') (rnew:F2 (X13 ρ) new new') (hold:∀ (j:Nat) v,old'[j]?=some v→w.cell? ⟨I.g,I.o+i+j,none⟩=some v) :
  ∃ ρ',ρ' id=some ⟨I.g,I.o+i,I.m,I.e,none⟩∧X0f ρ' h' (X4X w I.g (I.o+i+old.length) new')∧X2H ρ ρ' w∧Fr ρ w (X4X w I.g (I.o+i+old.length) new'):=by
 unfold Heap.grow at e
 rw [hB]at e
 simp only at e
 split at e
 case h_1=>cases e
 rename_i C hC
 split at e
 case h_2=>cases e
 rename_i hn
 simp only [Bool.and_eq_true,Nat.blt_eq]at hn
 have hn:=hn.1
 simp only [Option.some.injEq,Prod.mk.injEq]at e
 obtain⟨rfl,rfl⟩:=e
 obtain⟨B',C',d1,d2,d3,d4,d5,d6,d7,d8⟩:=H.dom b I hb
 rw [hB]at d1;cases d1
 rw [hC]at d2;cases d2
 obtain⟨k1,k2,k3⟩:=H.img b I B hb hB
 have hol:=rold.length
 have hnl:=rnew.length
 refine⟨upd ρ h.next ⟨I.g,I.o+i,I.m,I.e,none⟩,X0M _ _ _,?_,X2H.upd H _ (.inr ⟨b,I,hb,rfl⟩) rfl,X5V hb _ _⟩
 have low:∀ b₂ J B₂,ρ b₂=some J→h.blks.get b₂=some B₂→B₂.cls=B.cls→(match atEnd && Nat.beq b C.top with | true=>C.minv | false=>h.next)≤b₂→J.g=I.g→J.o+B₂.size≤I.o+i+old.length:=by
  intro b₂ J B₂ e2 h2 hc2 hm hg
  obtain⟨_,_,_,_,d3',_⟩:=H.dom b₂ J e2
  split at hm
  ·
   rename_i hat2
   simp only [Bool.and_eq_true]at hat2
   have hbt:b=C.top:=Nat.eq_of_beq_eq_true hat2.2
   have:=H.fin b₂ J B₂ C I B e2 h2 (by rw [hc2];exact hC) hm (by rw [← hbt];exact hb) hg.symm (by rw [← hbt];exact hB)
   have:=hat hat2.1
   omega
  · omega
 refine H.add _ size I.e B.cls _ _ ⟨I.g,I.o+i,I.m,I.e,none⟩ ⟨fun k hk _=>X5U I.g k (fun(e:k=I.g)=>H.nx.2 b I hb (e ▸ hk)) _ _ _,H.nx.2 b I hb⟩ (Nat.le_of_lt d5) (by rw [X5S];exact Nat.le_refl _) (by rw [X5S];exact k1) ?_ ?_ rfl hroom ?_ ?_ ?_ ?_ ?_ ?_ (fun g r hn hh=>XDv _ _ hn _ _ _ hh) rfl (fun b₂ J B₂ e2 h2 hc o hh=>by
  rw [X5U _ _ (fun eg=>hc (H.one b₂ b J I B₂ B e2 hb eg h2 hB))];exact hh)
 · intro j ho hj;exact XA0 _ _ _ _ _ (k2 j (Nat.le_trans (Nat.le_add_right _ _) ho) hj)
 · intro j ho hj;rw [X5T];exact k3 hro j (Nat.le_trans (Nat.le_add_right _ _) ho) hj
 ·
  intro j v hj hv
  rw [X2I _ _ _ _ (Nat.zero_le _)]at hv
  rw [if_pos (by simp;omega)]at hv
  simp only [Nat.sub_zero]at hv
  have hr:=(rold.append rnew).get j v hv
  obtain⟨v',q1,q2⟩:=hr
  refine⟨v',?_,q2.ext (H.ext_upd _)⟩
  by_cases hjl:j<old'.length
  ·
   rw [List.getElem?_append_left hjl]at q1
   show(X4X w I.g (I.o+i+old.length) new').cell? ⟨I.g,I.o+i+j,none⟩=some v'
   rw [X3S _ _ _ _ _ (.inr (.inl (by simp;omega)))]
   exact hold j v' q1
  ·
   rw [List.getElem?_append_right (by omega)]at q1
   show(X4X w I.g (I.o+i+old.length) new').cell? ⟨I.g,I.o+i+j,none⟩=some v'
   have:=XFw I.g new' w (I.o+i+old.length) (j - old'.length) v' (fun k hk=>k2 _ (by omega) (by omega)) q1
   rw [← this];congr 2;omega
 ·
  intro b₂ J e2 j hj
  exact⟨fun hx=>XA0 _ _ _ _ _ hx,fun hf=>by rw [X5T];exact hf⟩
 ·
  intro b₂ J B₂ C₂ e2 h2 hC2 hm2 hmv j hj
  by_cases hg:J.g=I.g
  ·
   have hcl:=H.one b₂ b J I B₂ B e2 hb hg h2 hB
   have:=low b₂ J B₂ e2 h2 hcl (hmv hcl) hg
   exact X3S _ _ _ _ _ (.inr (.inl (by simp;omega)))
  · exact X3S _ _ _ _ _ (.inl hg)
 · intro b₂ J B₂ e2 h2 hg;exact H.one b₂ b J I B₂ B e2 hb hg h2 hB
 ·
  intro b₂ J B₂ C₂ e2 hB₂ hc₂ hC₂ hm
  rw [hC]at hC₂;cases hC₂
  split at hm
  · exact hm
  · obtain⟨_,_,_,_,d3',_⟩:=H.dom b₂ J e2;omega
 ·
  intro b₂ J B₂ e2 h2 hc2 hm hg
  have:=low b₂ J B₂ e2 h2 hc2 hm hg
  show J.o+B₂.size≤I.o+i+size
  omega
theorem XFz {h h':Heap} {b id size esz:Nat} {atEnd:Bool} {cells:Tr Value} {B:Blk} (hB:h.blks.get b=some B) (e:h.grow b atEnd cells size esz=some (id,h')):B.ro=false:=by
 unfold Heap.grow at e
 rw [hB]at e
 simp only at e
 split at e
 case h_1=>cases e
 split at e
 case h_2=>cases e
 rename_i hn
 simp only [Bool.and_eq_true,Bool.not_eq_true']at hn
 exact hn.2
theorem X5f {P:Program} {ρ:Rho} {h h':Heap} {w:World} (H:X0f ρ h w) {argTypes:Array TypeId} {ty elem:TypeId} {base:Option Addr} {sLen sCap n ez:Nat} {s' x' v z:Value} {new new' new2:List Value}
  (e:X2d h (.slice base sLen sCap) ez sLen sCap n new=some (v,h')) (rs:X0N ρ (.slice base sLen sCap) s') (c1:(sLen+n)*ez≤100000000) (c2:sLen+n≤100000000) (c4:z.cells.size=ez) (c5:0<ez) (c6:new.length=n*ez)
  (rnew:F2 (X13 ρ) new new') (rnew2:F2 (X13 ρ) new new2)
  (hfits:∀ (base:Option Addr) (sLen c:Nat),sLen+n≤c→(Builtin.append_ argTypes ty #[.slice base sLen c,x']).run P w=(match base with
   | some a=>(storeCells (a.add (sLen*ez)) new').run P w
   | none=>.ok () w).andThen fun _ w'=>.ok (.slice base (sLen+n) c) w')
  (hgrows:∀ (base:Option Addr) (sLen c:Nat) (old:List Value),(Builtin.firstCells ez sLen (.slice base sLen c)).run P w.drew=.ok old.toArray w.drew→¬ sLen+n≤c→sLen+n≤100000000 →
   (Builtin.append_ argTypes ty #[.slice base sLen c,x']).run P w=.ok (.slice (some ⟨w.heap.size,0,none⟩) (sLen+n) (grownCap w (sLen+n) c elem))
   (w.drew.alloc (.cells (old.toArray++new2.toArray++Builtin.zeroCells z.cells (grownCap w (sLen+n) c elem - (sLen+n))) elem))):SM P ρ w (Builtin.append_ argTypes ty #[s',x']) v h':=by
 have hzc:∀ k,(Builtin.zeroCells z.cells k).size=k*ez:=fun k=>by simp [Builtin.zeroCells,c4]
 have hmul:sLen*ez+n*ez=(sLen+n)*ez:=(Nat.add_mul _ _ _).symm
 unfold X2d at e
 split at e
 ·
  rename_i hfit
  have hfit:sLen+n≤sCap:=by simpa using hfit
  split at e
  ·
   rename_i hsv
   cases hsv
   cases e
   have:=rs.eq_of_plain rfl;subst this
   refine⟨.slice none 0 0,ρ,w,?_,.plain rfl,H,.refl _ _,.refl _ _⟩
   rw [hfits _ _ _ hfit]
   have hn0:n=0:=by omega
   subst hn0;rfl
  ·
   rename_i hsv
   cases hsv
   cases e
   obtain⟨rfl,rfl,a',rfl⟩:=rs.mark_inv
   have hn0:n=0:=by omega
   subst hn0
   have:new=[]:=by simpa using c6
   subst this
   cases rnew
   refine⟨.slice (some a') 0 0,ρ,w,?_,.one (.one .sliceE),H,.refl _ _,.refl _ _⟩
   rw [hfits _ _ _ (Nat.le_refl _)]
   rfl
  ·
   rename_i b i' _ _ hsv
   cases hsv
   split at e
   case h_2=>cases e
   rename_i B hB
   split at e
   case h_2=>cases e
   rename_i h₁ hes hw
   cases e
   have hes:B.esz=ez:=Nat.eq_of_beq_eq_true hes
   rcases rs.slice_inv with⟨I,c',hb,rfl,hn,hcc,hm⟩ | ⟨rfl,rfl,a',rfl⟩
   ·
    obtain⟨p1,p2⟩:=X42 hb new new' h h' w _ H hw rnew
    refine⟨.slice (some ⟨I.g,I.o+i',none⟩) (sLen+n) c',ρ,_,?_,?_,p1,.refl _ _,X5V hb _ _⟩
    ·
     rw [hfits _ _ _ (Nat.le_trans hfit hcc)]
     simp only [X24]
     rw [X1L I.g (I.o+i'+sLen*ez) new' w 0 rnew.oneC (by simpa[Nat.add_assoc]using p2)]
     simp only [Result.andThen_ok,Nat.add_zero,Nat.add_assoc]
    · exact .one (.one (.slice hb hfit hcc hm))
   ·
    have hn0:n=0:=by omega
    subst hn0
    have:new=[]:=by simpa using c6
    subst this
    cases rnew
    simp only [Heap.wrL,Option.some.injEq]at hw
    subst hw
    refine⟨.slice (some a') 0 0,ρ,w,?_,.one (.one .sliceE),H,.refl _ _,.refl _ _⟩
    rw [hfits _ _ _ (Nat.le_refl _)]
    rfl
  · cases e
 ·
  rename_i hfit
  have hfit:¬ sLen+n≤sCap:=by
   intro hx
   have:Nat.ble (sLen+n) sCap=true:=by simpa using hx
   rw [this]at hfit;cases hfit
  split at e
  ·
   rename_i hsv
   cases hsv
   have:=rs.eq_of_plain rfl;subst this
   unfold X0n at e
   split at e
   case h_2=>cases e
   rename_i id h₁ hnw
   cases e
   have hge:=grownCap_ge w (0+n) 0 elem
   obtain⟨ρ',p1,p2,p3,p4⟩:=X3E H.drew hnw (new2.toArray++Builtin.zeroCells z.cells (grownCap w (0+n) 0 elem - (0+n))) elem (by have:=rnew2.length;simp;omega) (fun j u hj hu=>by
    obtain⟨u',q1,q2⟩:=rnew2.get j u (X1n (by simp [X3m]) hu)
    refine⟨u',?_,q2⟩
    have hlt:j<new2.length:=by
     rcases Nat.lt_or_ge j new2.length with hh | hh
     · exact hh
     · rw [List.getElem?_eq_none hh]at q1;cases q1
    rw [Array.getElem?_append_left (by simpa using hlt)]
    simpa using q1)
   refine⟨_,ρ',_,hgrows _ _ _ [] (by simp [Builtin.firstCells]) hfit (by omega),?_,?_,p3.undrew,?_⟩
   ·
    have hx:X13 ρ' (.slice (some ⟨id,0,none⟩) (0+n) (0+n)) (.slice (some ⟨w.drew.heap.size,0+0,none⟩) (0+n) (grownCap w (0+n) 0 elem)):=by
     refine X13.slice p1 (Nat.le_refl _) hge ?_
     have:=rnew2.length
     simp only [Array.size_append,hzc,List.size_toArray]
     have hg:grownCap w (0+n) 0 elem=n+(grownCap w (0+n) 0 elem - (0+n)):=by omega
     generalize grownCap w (0+n) 0 elem - (0+n)=g at hg ⊢
     rw [hg,Nat.add_mul]
     omega
    exact .one (.one hx)
   · simpa using p2
   ·
    have:=(Fr.refl ρ w).drew.trans (X2H.refl ρ w) (ρ₁:=ρ) p4
    simpa using this
  ·
   rename_i hsv
   cases hsv
   obtain⟨rfl,rfl,a',rfl⟩:=rs.mark_inv
   unfold X0n at e
   split at e
   case h_2=>cases e
   rename_i id h₁ hnw
   cases e
   have hge:=grownCap_ge w (0+n) 0 elem
   obtain⟨ρ',p1,p2,p3,p4⟩:=X3E H.drew hnw (new2.toArray++Builtin.zeroCells z.cells (grownCap w (0+n) 0 elem - (0+n))) elem (by have:=rnew2.length;simp;omega) (fun j u hj hu=>by
    obtain⟨u',q1,q2⟩:=rnew2.get j u (X1n (by simp [X3m]) hu)
    refine⟨u',?_,q2⟩
    have hlt:j<new2.length:=by
     rcases Nat.lt_or_ge j new2.length with hh | hh
     · exact hh
     · rw [List.getElem?_eq_none hh]at q1;cases q1
    rw [Array.getElem?_append_left (by simpa using hlt)]
    simpa using q1)
   refine⟨_,ρ',_,hgrows _ _ _ [] (by simp [Builtin.firstCells,loadCells,loadCellsFrom]) hfit (by omega),?_,?_,p3.undrew,?_⟩
   ·
    have hx:X13 ρ' (.slice (some ⟨id,0,none⟩) (0+n) (0+n)) (.slice (some ⟨w.drew.heap.size,0+0,none⟩) (0+n) (grownCap w (0+n) 0 elem)):=by
     refine X13.slice p1 (Nat.le_refl _) hge ?_
     have:=rnew2.length
     simp only [Array.size_append,hzc,List.size_toArray]
     have hg:grownCap w (0+n) 0 elem=n+(grownCap w (0+n) 0 elem - (0+n)):=by omega
     generalize grownCap w (0+n) 0 elem - (0+n)=g at hg ⊢
     rw [hg,Nat.add_mul]
     omega
    exact .one (.one hx)
   · simpa using p2
   ·
    have:=(Fr.refl ρ w).drew.trans (X2H.refl ρ w) (ρ₁:=ρ) p4
    simpa using this
  ·
   rename_i b i' _ _ hsv
   cases hsv
   split at e
   case h_2=>cases e
   rename_i old B hold hB
   split at e
   case h_2=>cases e
   rename_i hck2
   simp only [Bool.and_eq_true,Nat.blt_eq]at hck2
   have hes:B.esz=ez:=Nat.eq_of_beq_eq_true hck2.1
   have hcl:=hck2.2
   unfold X0n at e
   split at e
   case h_2=>cases e
   rename_i id h₁ hgw
   cases e
   have hol:=X27 _ _ _ hold
   have hro:=XFz hB hgw
   have moved:∀ (base':Option Addr) (c':Nat) (old2:List Value),¬ sLen+n≤c'→(Builtin.firstCells ez sLen (.slice base' sLen c')).run P w.drew=.ok old2.toArray w.drew→F2 (X13 ρ) old old2 →
     SM P ρ w (Builtin.append_ argTypes ty #[.slice base' sLen c',x']) (.slice (some ⟨id,0,none⟩) (sLen+n) (sLen+n)) h':=by
    intro base' c' old2 hf ho ro
    have hge:=grownCap_ge w (sLen+n) c' elem
    have hl1:=ro.length
    have hl2:=rnew2.length
    obtain⟨ρ',p1,p2,p3,p4⟩:=XAk H.drew hB hcl hgw (old2.toArray++new2.toArray++Builtin.zeroCells z.cells (grownCap w (sLen+n) c' elem - (sLen+n))) elem (by simp;omega) (fun j u hj hu=>by
     obtain⟨u',q1,q2⟩:=(ro.append rnew2).get j u (X1n (by simp [X3m]) hu)
     refine⟨u',?_,q2⟩
     have hlt:j<(old2++new2).length:=by
      rcases Nat.lt_or_ge j (old2++new2).length with hh | hh
      · exact hh
      · rw [List.getElem?_eq_none hh]at q1;cases q1
     rw [Array.getElem?_append_left (by simpa using hlt)]
     simpa using q1)
    refine⟨_,ρ',_,hgrows _ _ _ old2 ho hf (by omega),?_,?_,p3.undrew,?_⟩
    ·
     have hx:X13 ρ' (.slice (some ⟨id,0,none⟩) (sLen+n) (sLen+n)) (.slice (some ⟨w.drew.heap.size,0+0,none⟩) (sLen+n) (grownCap w (sLen+n) c' elem)):=by
      refine X13.slice p1 (Nat.le_refl _) (by omega) ?_
      simp only [Array.size_append,hzc,List.size_toArray,Nat.zero_add]
      have hg:grownCap w (sLen+n) c' elem=(sLen+n)+(grownCap w (sLen+n) c' elem - (sLen+n)):=by omega
      generalize grownCap w (sLen+n) c' elem - (sLen+n)=g at hg ⊢
      rw [hg,Nat.add_mul,← hmul]
      omega
     exact .one (.one hx)
    · exact p2
    · exact(Fr.refl ρ w).drew.trans (X2H.refl ρ w) (ρ₁:=ρ) p4
   rcases rs.slice_inv with⟨I,c',hb,rfl,hn,hcc,hm⟩ | ⟨rfl,rfl,a',rfl⟩
   ·
    obtain⟨old',q1,q2,q3⟩:=X2C H hb _ _ _ hold
    by_cases hf:sLen+n≤c'
    ·
     obtain⟨_,_,d1,_,_,d4,_⟩:=H.dom b I hb
     rw [hB]at d1;cases d1
     have hmul2:(sLen+n)*ez≤c'*ez:=Nat.mul_le_mul_right _ hf
     have hIe:I.e=ez:=by omega
     rw [hIe]at hm
     rw [← hIe]at hgw
     obtain⟨ρ',p1,p2,p3,p4⟩:=X83 H (i:=i') (size:=(sLen+n)*I.e) hB hb hro (fun ht=>by
      have:=Nat.eq_of_beq_eq_true ht;rw [hIe]at this;omega) (by rw [hIe];omega) (by rw [hIe];omega) (by rw [hIe];omega) hgw q3 rnew q2
     refine⟨.slice (some ⟨I.g,I.o+i',none⟩) (sLen+n) c',ρ',_,?_,?_,p2,p3,p4⟩
     ·
      rw [hfits _ _ _ hf]
      simp only [X24]
      obtain⟨_,k2,k3⟩:=H.img b I B hb hB
      have hnl:=rnew.length
      rw [X1L I.g (I.o+i'+sLen*ez) new' w 0 rnew.oneC (fun j hj=>⟨k2 _ (by omega) (by omega),k3 hro _ (by omega) (by omega)⟩)]
      simp only [Result.andThen_ok,Nat.add_zero,hol]
     ·
      have hx:X13 ρ' (.slice (some ⟨id,0,none⟩) (sLen+n) (sLen+n)) (.slice (some ⟨I.g,I.o+i'+0,none⟩) (sLen+n) c'):=by
       refine X13.slice p1 (Nat.le_refl _) hf ?_
       show I.o+i'+0+c'*I.e≤I.m
       rw [hIe];omega
      rw [Nat.add_zero]at hx
      exact .one (.one hx)
    ·
     refine moved _ c' old' hf ?_ q3
     have:=X1Y (P:=P) (w:=w.drew) (g:=I.g) (o:=I.o+i') (vs:=old') (fun j u hu=>by simpa using q2 j u hu)
     rw [q1]at this
     simp [Builtin.firstCells,this]
   ·
    have ho0:old=[]:=by simpa using hol
    subst ho0
    exact moved (some a') 0 [] (by omega) (by simp [Builtin.firstCells,loadCells,loadCellsFrom]) .nil
  · cases e
theorem X7A {P:Program} {ρ:Rho} {h h':Heap} {w:World} (H:X0f ρ h w) {argTypes:Array TypeId} {ty:TypeId} {s s' x x' v:Value}
  (e:X5d P h argTypes s x=some (v,h')) (rs:X0N ρ s s') (rx:X0N ρ x x'):SM P ρ w (Builtin.append_ argTypes ty #[s',x']) v h':=by
 unfold X5d at e
 split at e
 case h_2=>cases e
 rename_i st xt h0 h1
 split at e
 case h_2=>cases e
 rename_i elem d hst hxt
 split at e
 case h_2=>cases e
 rename_i ez z i he hz hi
 split at e
 ·
  rename_i hd
  split at e
  case h_2=>cases e
  rename_i base sLen sCap k j
  split at e
  case h_2=>cases e
  rename_i hck
  simp only [Bool.and_eq_true,Nat.ble_eq,Nat.blt_eq,decide_eq_true_eq]at hck
  obtain⟨⟨⟨⟨⟨⟨hj0,hj1⟩,c1⟩,c2⟩,c3⟩,c4⟩,c5⟩:=hck
  have c4:z.cells.size=ez:=Nat.eq_of_beq_eq_true c4
  have:=rx.eq_of_plain rfl;subst this
  have hzc:=X0p (ρ:=ρ) (X1S (X0W hz)) (n:=j.toNat*z.cells.size) (.inr (by omega))
  have hzl:(Builtin.zeroCells z.cells j.toNat).toList=X02 z.cells (j.toNat*z.cells.size):=by simp [Builtin.zeroCells,X02]
  refine X5f (z:=z) (elem:=elem) H e rs c1 c2 c4 c5 (by simp [X02,c4]) hzc hzc (fun base sLen c hf=>?_) (fun base sLen c old ho hf hn=>?_)
  · rw [X4m h0 h1 hst hxt hd he hi hz hj0 hj1 c5 c3 hf,hzl]
  · rw [X4O h0 h1 hst hxt hd he hi hz hj0 hj1 c5 ho hf c3 hn,← hzl]
 rename_i hdi
 split at e
 case h_2=>cases e
 rename_i base sLen sCap
 split at e
 case h_2=>cases e
 rename_i n new hxc
 split at e
 case h_2=>cases e
 rename_i hck
 simp only [Bool.and_eq_true,Nat.ble_eq,Nat.blt_eq]at hck
 obtain⟨⟨⟨⟨⟨⟨hd,c1⟩,c2⟩,c3⟩,c4⟩,c5⟩,c6⟩:=hck
 have c4:z.cells.size=ez:=Nat.eq_of_beq_eq_true c4
 have c6:new.length=n*ez:=Nat.eq_of_beq_eq_true c6
 obtain⟨hlen,new',hnew,rnew⟩:=X2v (P:=P) H hxc rx
 obtain⟨_,new2,hnew2,rnew2⟩:=X2v (P:=P) H.drew hxc rx
 exact X5f (z:=z) (elem:=elem) H e rs c1 c2 c4 c5 c6 rnew rnew2 (fun base sLen c hf=>X5e h0 h1 hst hxt hd he hlen hnew hf)
  (fun base sLen c old ho hf hn=>X4l h0 h1 hst hxt hd he hi hz hlen hnew2 ho hf c3 hn)
def X84 (h:Heap) (e n:Nat):Value→Option (List Value)
 | .slice (some ⟨b,i,none⟩) _ _=>h.rdL b i (n*e)
 | .slice none 0 0=>some []
 | .slice (some ⟨_,_,some _⟩) 0 0=>some []
 | _=>none
def X3e:Value→Option Nat
 | .slice _ n _=>some n
 | _=>none
theorem X3n {P:Program} {ρ:Rho} {x x':Value} {n:Nat} (h:X3e x=some n) (r:X0N ρ x x'):∀ w,(Builtin.lenOf x').run P w=.ok n w:=by
 unfold X3e at h
 split at h
 case h_2=>cases h
 cases h
 cases r.leaf (by simp) (by simp)with
 | plain hp=>exact fun _=>rfl
 | slice=>exact fun _=>rfl
 | sliceE=>exact fun _=>rfl
theorem X85 {P:Program} {ρ:Rho} {h:Heap} {w:World} (H:X0f ρ h w) {e n m:Nat} {x x':Value} {l:List Value} (hx:X84 h e n x=some l) (hl:X3e x=some m) (hn:n≤m) (r:X0N ρ x x') :
  ∃ l',(Builtin.firstCells e n x').run P w=.ok l'.toArray w∧F2 (X13 ρ) l l':=by
 unfold X84 at hx
 split at hx
 ·
  rename_i b i m' c
  simp only [X3e,Option.some.injEq]at hl
  subst hl
  rcases r.slice_inv with⟨I,c',hb,rfl,_⟩ | ⟨rfl,rfl,a',rfl⟩
  ·
   obtain⟨vs',q1,q2,q3⟩:=X2C H hb _ i l hx
   have:=X1Y (P:=P) (w:=w) (g:=I.g) (o:=I.o+i) (vs:=vs') q2
   rw [q1]at this
   exact⟨vs',by simp [Builtin.firstCells,this],q3⟩
  ·
   have hn0:n=0:=by omega
   subst hn0
   have:l=[]:=by have:=X27 _ _ _ hx;simpa using this
   subst this
   exact⟨[],by simp [Builtin.firstCells,loadCells,loadCellsFrom],.nil⟩
 ·
  cases hx
  have:=r.eq_of_plain rfl;subst this
  exact⟨[],by simp [Builtin.firstCells],.nil⟩
 ·
  cases hx
  obtain⟨_,_,a',rfl⟩:=r.mark_inv
  simp only [X3e,Option.some.injEq]at hl
  subst hl
  have hn0:n=0:=by omega
  subst hn0
  exact⟨[],by simp [Builtin.firstCells,loadCells,loadCellsFrom],.nil⟩
 · cases hx
def X45 (h:Heap) (dst:Value) (l:List Value):Option Heap :=
 match dst with
 | .slice (some ⟨b,i,none⟩) _ _=>h.wrL b i l
 | .slice none 0 0=>match l with
  | []=>some h
  | _=>none
 | .slice (some ⟨_,_,some _⟩) 0 0=>match l with
  | []=>some h
  | _=>none
 | _=>none
theorem X64 {P:Program} {ρ:Rho} {h h':Heap} {w:World} (H:X0f ρ h w) {dst dst':Value} {l l':List Value} (e:X45 h dst l=some h') (r:X0N ρ dst dst') (rl:F2 (X13 ρ) l l') (hz:X3e dst=some 0→l=[]) :
  ∃ w' base n c,dst'=.slice base n c∧(match base with | some a=>(storeCells a l').run P w | none=>.ok () w)=.ok () w'∧X0f ρ h' w'∧Fr ρ w w':=by
 unfold X45 at e
 split at e
 ·
  rename_i b i n c
  rcases r.slice_inv with⟨I,c',hb,rfl,_⟩ | ⟨rfl,rfl,a',rfl⟩
  ·
   obtain⟨p1,p2⟩:=X42 hb l l' h h' w i H e rl
   refine⟨_,_,_,_,rfl,?_,p1,X5V hb _ _⟩
   exact X1L I.g (I.o+i) l' w 0 rl.oneC (by simpa[Nat.add_assoc]using p2)
  ·
   have:=hz rfl
   subst this
   cases rl
   simp only [Heap.wrL,Option.some.injEq]at e
   subst e
   exact⟨w,_,_,_,rfl,rfl,H,.refl _ _⟩
 ·
  split at e
  case h_2=>cases e
  cases e;cases rl
  have:=r.eq_of_plain rfl;subst this
  exact⟨w,_,_,_,rfl,rfl,H,.refl _ _⟩
 ·
  split at e
  case h_2=>cases e
  cases e;cases rl
  obtain⟨_,_,a',rfl⟩:=r.mark_inv
  exact⟨w,_,_,_,rfl,rfl,H,.refl _ _⟩
 · cases e
def XCM (P:Program) (h:Heap) (argTypes:Array TypeId) (dst src:Value):Option (Value×Heap) :=
 match argTypes[0]? with
 | some dt=>match P.underlying dt with
  | some (.slice elem)=>match sz P elem,X3e dst,X3e src with
   | some e,some dl,some sl=>match X84 h e (Nat.min sl dl) src with
    | some l=>match Nat.beq l.length (Nat.min sl dl*e),X45 h dst l with
     | true,some h'=>some (.int .i64 (Nat.min sl dl:Nat),h')
     | _,_=>none
    | none=>none
   | _,_,_=>none
  | _=>none
 | none=>none
theorem X96 {P:Program} {ρ:Rho} {h h':Heap} {w:World} (H:X0f ρ h w) {argTypes:Array TypeId} {ty:TypeId} {s s' x x' v:Value}
  (e:XCM P h argTypes s x=some (v,h')) (rs:X0N ρ s s') (rx:X0N ρ x x'):SM P ρ w (Builtin.copy_ argTypes ty #[s',x']) v h':=by
 unfold XCM at e
 split at e
 case h_2=>cases e
 rename_i dt h0
 split at e
 case h_2=>cases e
 rename_i elem hu
 split at e
 case h_2=>cases e
 rename_i ez dl sl he hdl hsl
 split at e
 case h_2=>cases e
 rename_i l hl
 split at e
 case h_2=>cases e
 rename_i h₁ hlen hw
 cases e
 have hlen:l.length=Nat.min sl dl*ez:=Nat.eq_of_beq_eq_true hlen
 obtain⟨l',q1,q2⟩:=X85 (P:=P) H hl hsl (Nat.min_le_left _ _) rx
 obtain⟨w',base,n,c,rfl,p1,p2,p3⟩:=X64 (P:=P) H hw rs q2 (fun hz=>by
  rw [hdl]at hz;cases hz
  have:l.length=0:=by rw [hlen];simp
  exact List.length_eq_zero_iff.1 this)
 have hdn:n=dl:=by
  have:=X3n (P:=P) hdl rs w
  simp [Builtin.lenOf]at this;exact this
 subst hdn
 refine⟨.int .i64 (Nat.min sl n:Nat),ρ,w',?_,.plain rfl,p2,.refl _ _,p3⟩
 simp only [Builtin.copy_,h0,List.getElem?_toArray,List.getElem?_cons_zero,List.getElem?_cons_succ,Sem.run_bind,X00 hu,Result.andThen_ok,X3n hsl rx,X0g he,q1,Sem.run_pure]
 cases base with
 | some a=>simp only at p1 ⊢;rw [Sem.run_bind,p1];rfl
 | none=>simp only at p1 ⊢;cases p1;rfl
def X86 (P:Program) (h:Heap) (argTypes:Array TypeId) (x:Value):Option (Value×Heap) :=
 match argTypes[0]? with
 | some t=>match P.underlying t with
  | some (.slice elem)=>match x with
   | .slice none 0 0=>some (.tuple #[],h)
   | .slice (some _) 0 _=>some (.tuple #[],h)
   | .slice (some ⟨b,i,none⟩) n _=>match X1o P elem with
    | some z=>match Nat.blt 0 z.cells.size with
     | true=>match h.wrL b i (X02 z.cells (n*z.cells.size))with
      | some h'=>some (.tuple #[],h')
      | none=>none
     | false=>none
    | none=>none
   | _=>none
  | _=>none
 | none=>none
theorem X87 {P:Program} {ρ:Rho} {h h':Heap} {w:World} (H:X0f ρ h w) {argTypes:Array TypeId} {ty:TypeId} {x x' v:Value}
  (e:X86 P h argTypes x=some (v,h')) (rx:X0N ρ x x'):SM P ρ w (Builtin.clear_ argTypes ty #[x']) v h':=by
 unfold X86 at e
 split at e
 case h_2=>cases e
 rename_i t h0
 split at e
 case h_2=>cases e
 rename_i elem hu
 split at e
 ·
  cases e
  have:=rx.eq_of_plain rfl;subst this
  refine⟨.tuple #[],ρ,w,?_,.tuple .nil,H,.refl _ _,.refl _ _⟩
  simp only [Builtin.clear_,h0,List.getElem?_toArray,List.getElem?_cons_zero,Sem.run_bind,X00 hu,Result.andThen_ok]
  rfl
 ·
  cases e
  obtain⟨a',n',c',rfl⟩:=rx.sliceSome
  have hn:n'=0:=by
   have:=X3n (P:=P) (n:=0) rfl rx w
   simp [Builtin.lenOf]at this;exact this
  subst hn
  refine⟨.tuple #[],ρ,w,?_,.tuple .nil,H,.refl _ _,.refl _ _⟩
  simp only [Builtin.clear_,h0,List.getElem?_toArray,List.getElem?_cons_zero,Sem.run_bind,X00 hu,Result.andThen_ok]
  rfl
 ·
  rename_i b i n c hne
  split at e
  case h_2=>cases e
  rename_i z hz
  split at e
  case h_2=>cases e
  rename_i hpos
  have hpos:0<z.cells.size:=by simpa using hpos
  split at e
  case h_2=>cases e
  rename_i h₁ hw
  cases e
  have hn:n≠0:=fun x=>hne (by simpa using x)
  rcases rx.slice_inv with⟨I,c',hb,rfl,_⟩ | ⟨rfl,rfl,a',rfl⟩
  ·
   have hzc:=X0p (ρ:=ρ) (X1S (X0W hz)) (n:=n*z.cells.size) (.inr hpos)
   obtain⟨p1,p2⟩:=X42 hb _ _ h h' w i H hw hzc
   refine⟨.tuple #[],ρ,_,?_,.tuple .nil,p1,.refl _ _,X5V hb _ _⟩
   have hst:=X1L (P:=P) I.g (I.o+i) (X02 z.cells (n*z.cells.size)) w 0 hzc.oneC (by simpa[Nat.add_assoc]using p2)
   obtain⟨n,rfl⟩:∃ m,n=m+1:=⟨n - 1,by omega⟩
   have hzz:(Builtin.zeroCells z.cells (n+1)).toList=X02 z.cells ((n+1)*z.cells.size):=by
    simp [Builtin.zeroCells,X02]
   simp only [Builtin.clear_,h0,List.getElem?_toArray,List.getElem?_cons_zero,Sem.run_bind,X00 hu,Result.andThen_ok,X1a hz,hzz,hst,Sem.run_pure]
   rfl
  · exact absurd rfl hn
 · cases e
def aCap (P:Program) (argTypes:Array TypeId) (x:Value):Option Value :=
 match argTypes[0]? with
 | some t=>match P.underlying t,x with
  | some (.slice _),.slice none 0 0=>some (.int .i64 0)
  | some (.slice _),.slice (some ⟨_,_,some _⟩) 0 0=>some (.int .i64 0)
  | _,_=>none
 | none=>none
theorem XAl {P:Program} {ρ:Rho} {argTypes:Array TypeId} {ty:TypeId} {x x' v:Value} (e:aCap P argTypes x=some v) (r:X0N ρ x x'):SP P ρ (Builtin.cap_ argTypes ty #[x']) v:=by
 unfold aCap at e
 split at e
 case h_2=>cases e
 rename_i t ht
 split at e
 ·
  rename_i el hu
  cases e
  have:=r.eq_of_plain rfl;subst this
  exact⟨.int .i64 0,fun w=>by simp [Builtin.cap_,ht,X00 hu,goInt],.plain rfl⟩
 ·
  rename_i el b i k hu
  cases e
  obtain⟨_,_,a',rfl⟩:=r.mark_inv
  exact⟨.int .i64 0,fun w=>by simp [Builtin.cap_,ht,X00 hu,goInt],.plain rfl⟩
 · cases e
end
end Go.Vai

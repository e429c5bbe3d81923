/-
  What is proved here: what a step of the search and the whole search come to, in plain terms (part NQ). what the laws over patterns ask for, in plain terms (part NV). the forms of signs, as data (part NU). No conditions but those that the theorems state.
-/
import Derived.Test.YtiebldaihnbkmaaGreatDoorNI
import Derived.Test.YtiebldaihnbkmaaGreatDoorPureNfa3
import Derived.Test.YtiebldaihnbkmaaGreatDoorRJ
set_option linter.unusedVariables false
set_option linter.unusedSimpArgs false
namespace Go.Vai
open Go.Nfa
noncomputable section
def X6c (S:List Sta):Prop:=∀ (set:List (Int×Int)) (no:Bool) (x:Nat),Sta.takes set no x∈S→set.length<4611686018427387904
def goQ (S:List Sta) (l:List Int) (p n:Nat) (first sz:Int) (now0:List Nat):D→List Ob→Prop:=fun r L1=>∃ seen now nn,r=.tup []∧SI S l p now0 now0.length seen now∧now.length=nn∧seen.length=n∧L1=tbl S l (p+1) n nn first sz seen now
theorem XA8 {b:List Bool} {j:Nat}:j∈XIE b↔Nfa.mk b j:=by
 unfold XIE Nfa.mk
 rw [List.mem_filter,List.mem_range]
 constructor
 ·
  rintro⟨h,e⟩
  rw [getD_some (d:=false) h,e]
 ·
  intro e
  have h:=(List.getElem?_eq_some_iff.1 e).1
  exact⟨h,X5j e⟩
theorem XA9 (b:List Bool):(XIE b).Pairwise (·<·):=List.Pairwise.filter _ List.pairwise_lt_range
theorem X98 {N:Nd} (hl:X0L X16 N) {l:List Int} {a:Nat} {es:List Nat} {S:List Sta} {s0:Nat} (hS:X0x K14 N=(S,s0)) (ha:a≤l.length) (hp:es.Pairwise (·<·)) (hm:∀ j,j∈es↔∃ t,RC S l s0 a t j∧S[t]?=some .done):es=X5M l N ((a:Nat):Int):=by
 rw [XA5 (by omega),Int.toNat_natCast]
 refine X6k hp (XA9 _) fun j=>?_
 have:=XEX K14 l (X7w N hl) (i:=a) (j:=j)
 rw [hS]at this
 rw [hm,XA8,X8B K14 l (X7w N hl) ha,this]
theorem XGH {es fs:List Nat} {m:Nat} (h:es=fs) (hm:es.length=m):D.sl 1 m (es.map X0e)=.sl 1 fs.length (fs.map X0e):=by subst h hm;rfl
theorem X35 {S:List Sta} {x:Nat} {σ:Sta} (h:S[x]?=some σ):(S.flatMap X03)[x*9+0]?=(X03 σ)[0]?:=by
 have:=congrArg (fun l=>l[0]?) (X0l X0Q h)
 simpa[List.getElem?_take,List.getElem?_drop]using this
theorem X7D {S:List Sta} {s:Nat} (h:plain S s):s<S.length:=by
 rcases h with⟨_,_,_,h⟩ | h<;>exact(List.getElem?_eq_some_iff.1 h).1
theorem XC0 {S:List Sta} {n a len:Nat} (h:S.length=n):Nfa.Ent S len a (fun _=>False) (List.replicate n 0) [] [] :=
 Ent.fresh (by simp [h]) fun s v e=>by have:=List.eq_of_mem_replicate (List.mem_of_getElem? e);omega
end
end Go.Vai
namespace Go.Vai
open Go.Nfa
noncomputable section
theorem FnD.known {P:Program} {ov:Ov} {f:FuncId} {fn:List Value→X0A→Option (Value×X0A)} (hov:ov f=some fn) (hg:∀ h,fn [] h=some (.bool true,h)):X1Q P ov f [] (.bool true):=by
 intro M g a vs ok old hlen nd hcl hobj hargs
 cases hargs
 refine Fn.known hov hg ⟨.bool true,[],g,CR.bool,hlen,Nat.le_refl _,nd,fun k hk=>⟨(hcl k hk).1,(hcl k hk).2,.inl hk⟩,hobj,X1e.refl _ _,ok,fun i b k cs e _=>e,fun i cs _ e=>⟨cs,e⟩,rfl,rfl⟩
theorem X6c.app {L:List Sta} {σ:Sta} (h:X6c L) (hσ:∀ set no x,σ=.takes set no x→set.length<4611686018427387904):X6c (L++[σ]):=by
 intro set no x hx
 rcases List.mem_append.1 hx with q | q
 · exact h set no x q
 · simp at q;exact hσ set no x q.symm
theorem X6c.set {L:List Sta} {σ:Sta} {i:Nat} (h:X6c L) (hσ:∀ set no x,σ=.takes set no x→set.length<4611686018427387904):X6c (L.set i σ):=by
 intro set no x hx
 rcases List.mem_or_eq_of_mem_set hx with q | q
 · exact h set no x q
 · exact hσ set no x q.symm
mutual
theorem X45:∀ (n:Nd),fit n→∀ (L:List Sta) (next:Nat),X6c L→X6c (build K14 n L next).1
 | .mk k set no kids mn mx,hf,L,next,h=>by
  have hk:=hf.2.2.2.2
  rw [X1a]
  split
  · exact h.app (fun _ _ _ e=>by cases e;exact hf.1)
  ·
   split
   · exact h.app (fun _ _ _ e=>by cases e)
   ·
    split
    · exact h.app (fun _ _ _ e=>by cases e)
    ·
     split
     · exact X5O kids hk L next h
     ·
      split
      ·
       cases kids with
       | nil=>rw [X1N];exact h
       | cons x ns =>
        rw [XBn]at hk
        rw [X1N]
        exact X6d ns hk.2 next _ (X45 x hk.1 L next h)
      ·
       split
       ·
        cases kids with
        | nil=>rw [X15];exact h
        | cons x ns =>
         rw [XBn]at hk
         have hb:∀ (L:List Sta) (next:Nat),X6c L→X6c (build K14 x L next).1:=X45 x hk.1
         rw [X3q (x:=x) rfl]
         have h0:X6c (X7C (build K14 x) mx L next).1:=by
          unfold X7C
          split
          · exact(hb _ _ (h.app fun _ _ _ e=>by cases e)).set fun _ _ _ e=>by cases e
          · exact h
         have h1:=X7K (f:=fun r=>XDr (build K14 x) (X7C (build K14 x) mx L next).2 r) (q:=fun r=>X6c r.1) (fun r hr=>(hb _ _ hr).app fun _ _ _ e=>by cases e) (mx - mn).toNat _ h0
         exact X7K (f:=fun r=>XFb (build K14 x) r) (q:=fun r=>X6c r.1) (fun r hr=>hb _ _ hr) mn.toNat _ h1
       · exact h
theorem X5O:∀ (ns:List Nd),XBn ns→∀ (L:List Sta) (next:Nat),X6c L→X6c (X0Y K14 ns L next).1
 | [],_,L,next,h=>by rw [X0Y];exact h
 | n::ns,hf,L,next,h=>by
  rw [XBn]at hf
  rw [X0Y]
  exact X45 n hf.1 _ _ (X5O ns hf.2 L next h)
theorem X6d:∀ (ns:List Nd),XBn ns→∀ (next:Nat) (r:List Sta×Nat),X6c r.1→X6c (X1C K14 ns next r).1
 | [],_,next,r,h=>by rw [X1C];exact h
 | n::ns,hf,next,r,h=>by
  rw [XBn]at hf
  rw [X1C]
  exact X6d ns hf.2 next _ ((X45 n hf.1 r.1 next h).app fun _ _ _ e=>by cases e)
end
theorem X6e {n:Nd} (h:fit n):X6c (X0x K14 n).1:=X45 n h _ _ (fun _ _ _ e=>by simp at e)
theorem X99 {N:Nd} (hl:X0L X16 N) (h:wp K14 20001 N≤20000):(X0x K14 N).1.length≤1000000:=by
 have h1:=X1E N hl [.done] 0
 have h2:=XEa K14 20001 N
 have:(X0x K14 N).1.length=(build K14 N [.done] 0).1.length:=rfl
 simp only [List.length_singleton]at h1
 omega
mutual
theorem X7E:∀ n:Nd,XA3 n=true↔X0L X16 n
 | .mk k set no kids mn mx=>by rw [XA3,X0L,Bool.and_eq_true,X80 kids];exact and_comm
theorem X80:∀ ns:List Nd,X2g ns=true↔X0V X16 ns
 | []=>by rw [X2g,X0V];simp
 | n::ns=>by rw [X2g,X0V,Bool.and_eq_true,X7E n,X80 ns]
end
theorem XGI {N:Nd} (h:Nfa.cnt X16 N 1≤2000):X0L X16 N:=((Nfa.XAG X16 N 1).2 h).2.2
theorem XIK {N:Nd} (h:¬ wp K14 20001 N≤20000):¬ wr K14 1000000 N≤20000:=fun q=>h ((XGm K14 (c:=20000) (d:=1000000) (by omega) N).1.2 q)
end
end Go.Vai
namespace Go.Vai
noncomputable section
def X0F:List (List Nat×List Nat):=[([0],[127]),([194,128],[223,191]),([224,160,128],[224,191,191]),([225,128,128],[236,191,191]),([237,128,128],[237,159,191]),([238,128,128],[239,191,191]),([240,144,128,128],[240,191,191,191]),([241,128,128,128],[243,191,191,191]),([244,128,128,128],[244,143,191,191])]
def u8D (n:Nat):D:=.int .u8 ((n:Nat):Int)
def X1D (f:List Nat×List Nat):List D:=[.sl 1 f.1.length (f.1.map u8D),.sl 1 f.2.length (f.2.map u8D)]
theorem XAA (f:List Nat×List Nat):(X1D f).length=2:=rfl
theorem XEC {i:Nat} {f:List Nat×List Nat} (h:X0F[i]?=some f):f.1.length=f.2.length∧1≤f.1.length∧f.1.length≤4:=by
 have:∀ f∈X0F,f.1.length=f.2.length∧1≤f.1.length∧f.1.length≤4:=by decide
 exact this f (List.mem_of_getElem? h)
theorem X2B {i:Nat} {f:List Nat×List Nat} (h:X0F[i]?=some f):(X0F.flatMap X1D)[i*2+0]?=some (.sl 1 f.1.length (f.1.map u8D)):=by
 have:=congrArg (fun l=>l[0]?) (X0l XAA h)
 simpa[List.getElem?_take,List.getElem?_drop,X1D]using this
theorem XAw {i:Nat} {f:List Nat×List Nat} (h:X0F[i]?=some f):(X0F.flatMap X1D)[i*2+1]?=some (.sl 1 f.2.length (f.2.map u8D)):=by
 have:=congrArg (fun l=>l[1]?) (X0l XAA h)
 simpa[List.getElem?_take,List.getElem?_drop,X1D]using this
theorem XED {i:Nat} (h:i<9):∃ f,X0F[i]?=some f:=⟨_,List.getElem?_eq_getElem (show i<X0F.length from h)⟩
theorem XGJ {α:Type} {f:α→D} {xs:List α} {u:Nat}:D.sl 1 (u - 0) (((xs.map f).drop (0*1)).take ((u - 0)*1))=.sl 1 u ((xs.take u).map f):=by
 rw [Nat.zero_mul,List.drop_zero,Nat.sub_zero,Nat.mul_one,List.map_take]
end
end Go.Vai

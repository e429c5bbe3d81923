/-
  What is proved here: what a step of the search and the whole search come to, in plain terms (part NQ). what the laws over patterns ask for, in plain terms (part NV). the forms of signs, as data (part NU). No conditions but those that the theorems state.
-/
import Derived.Test.YtfcadnhoejlgoaaGreatDoorNI
import Derived.Test.YtfcadnhoejlgoaaGreatDoorPureNfa3
import Derived.Test.YtfcadnhoejlgoaaGreatDoorRJ
set_option linter.unusedVariables false
set_option linter.unusedSimpArgs false
namespace Go.Vai
open Go.Nfa
noncomputable section
def X7W (S:List Sta):Prop:=∀ (set:List (Int×Int)) (no:Bool) (x:Nat),Sta.takes set no x∈S→set.length<4611686018427387904
def goQ (S:List Sta) (l:List Int) (p n:Nat) (first sz:Int) (now0:List Nat):D→List Ob→Prop:=fun r L1=>∃ seen now nn,r=.tup []∧SI S l p now0 now0.length seen now∧now.length=nn∧seen.length=n∧L1=tbl S l (p+1) n nn first sz seen now
theorem XBS {b:List Bool} {j:Nat}:j∈XJ2 b↔Nfa.mk b j:=by
 unfold XJ2 Nfa.mk
 rw [List.mem_filter,List.mem_range]
 constructor
 ·
  rintro⟨h,e⟩
  rw [getD_some (d:=false) h,e]
 ·
  intro e
  have h:=(List.getElem?_eq_some_iff.1 e).1
  exact⟨h,X4O e⟩
theorem XGX (b:List Bool):(XJ2 b).Pairwise (·<·):=List.Pairwise.filter _ List.pairwise_lt_range
theorem XAQ {N:Nd} (hl:X0H X16 N) {l:List Int} {a:Nat} {es:List Nat} {S:List Sta} {s0:Nat} (hS:X0F K14 N=(S,s0)) (ha:a≤l.length) (hp:es.Pairwise (·<·)) (hm:∀ j,j∈es↔∃ t,RC S l s0 a t j∧S[t]?=some .done):es=X0S l N ((a:Nat):Int):=by
 rw [X8A (by omega),Int.toNat_natCast]
 refine XCX hp (XGX _) fun j=>?_
 have:=XGv K14 l (X6E N hl) (i:=a) (j:=j)
 rw [hS]at this
 rw [hm,XBS,X9M K14 l (X6E N hl) ha,this]
theorem XJE {es fs:List Nat} {m:Nat} (h:es=fs) (hm:es.length=m):D.sl 1 m (es.map X0h)=.sl 1 fs.length (fs.map X0h):=by subst h hm;rfl
theorem X3U {S:List Sta} {x:Nat} {σ:Sta} (h:S[x]?=some σ):(S.flatMap X03)[x*9+0]?=(X03 σ)[0]?:=by
 have:=congrArg (fun l=>l[0]?) (X0v X0V h)
 simpa[List.getElem?_take,List.getElem?_drop]using this
theorem X8E {S:List Sta} {s:Nat} (h:plain S s):s<S.length:=by
 rcases h with⟨_,_,_,h⟩ | h<;>exact(List.getElem?_eq_some_iff.1 h).1
theorem XDh {S:List Sta} {n a len:Nat} (h:S.length=n):Nfa.Ent S len a (fun _=>False) (List.replicate n 0) [] [] :=
 Ent.fresh (by simp [h]) fun s v e=>by have:=List.eq_of_mem_replicate (List.mem_of_getElem? e);omega
end
end Go.Vai
namespace Go.Vai
open Go.Nfa
noncomputable section
theorem FnD.known {P:Program} {ov:Ov} {f:FuncId} {fn:List Value→X0A→Option (Value×X0A)} (hov:ov f=some fn) (hg:∀ h,fn [] h=some (.bool true,h)):X1K P ov f [] (.bool true):=by
 intro M g a vs ok old hlen nd hcl hobj hargs
 cases hargs
 refine Fn.known hov hg ⟨.bool true,[],g,CR.bool,hlen,Nat.le_refl _,nd,fun k hk=>⟨(hcl k hk).1,(hcl k hk).2,.inl hk⟩,hobj,X1d.refl _ _,ok,fun i b k cs e _=>e,fun i cs _ e=>⟨cs,e⟩,rfl,rfl⟩
theorem X7W.app {L:List Sta} {σ:Sta} (h:X7W L) (hσ:∀ set no x,σ=.takes set no x→set.length<4611686018427387904):X7W (L++[σ]):=by
 intro set no x hx
 rcases List.mem_append.1 hx with q | q
 · exact h set no x q
 · simp at q;exact hσ set no x q.symm
theorem X7W.set {L:List Sta} {σ:Sta} {i:Nat} (h:X7W L) (hσ:∀ set no x,σ=.takes set no x→set.length<4611686018427387904):X7W (L.set i σ):=by
 intro set no x hx
 rcases List.mem_or_eq_of_mem_set hx with q | q
 · exact h set no x q
 · exact hσ set no x q.symm
mutual
theorem X4d:∀ (n:Nd),fit n→∀ (L:List Sta) (next:Nat),X7W L→X7W (build K14 n L next).1
 | .mk k set no kids mn mx,hf,L,next,h=>by
  have hk:=hf.2.2.2.2
  rw [X1m]
  split
  · exact h.app (fun _ _ _ e=>by cases e;exact hf.1)
  ·
   split
   · exact h.app (fun _ _ _ e=>by cases e)
   ·
    split
    · exact h.app (fun _ _ _ e=>by cases e)
    ·
     split
     · exact X6G kids hk L next h
     ·
      split
      ·
       cases kids with
       | nil=>rw [X1X];exact h
       | cons x ns =>
        rw [XDO]at hk
        rw [X1X]
        exact X7X ns hk.2 next _ (X4d x hk.1 L next h)
      ·
       split
       ·
        cases kids with
        | nil=>rw [X1D];exact h
        | cons x ns =>
         rw [XDO]at hk
         have hb:∀ (L:List Sta) (next:Nat),X7W L→X7W (build K14 x L next).1:=X4d x hk.1
         rw [X4J (x:=x) rfl]
         have h0:X7W (X8D (build K14 x) mx L next).1:=by
          unfold X8D
          split
          · exact(hb _ _ (h.app fun _ _ _ e=>by cases e)).set fun _ _ _ e=>by cases e
          · exact h
         have h1:=X8H (f:=fun r=>XFf (build K14 x) (X8D (build K14 x) mx L next).2 r) (q:=fun r=>X7W r.1) (fun r hr=>(hb _ _ hr).app fun _ _ _ e=>by cases e) (mx - mn).toNat _ h0
         exact X8H (f:=fun r=>XHy (build K14 x) r) (q:=fun r=>X7W r.1) (fun r hr=>hb _ _ hr) mn.toNat _ h1
       · exact h
theorem X6G:∀ (ns:List Nd),XDO ns→∀ (L:List Sta) (next:Nat),X7W L→X7W (X0e K14 ns L next).1
 | [],_,L,next,h=>by rw [X0e];exact h
 | n::ns,hf,L,next,h=>by
  rw [XDO]at hf
  rw [X0e]
  exact X4d n hf.1 _ _ (X6G ns hf.2 L next h)
theorem X7X:∀ (ns:List Nd),XDO ns→∀ (next:Nat) (r:List Sta×Nat),X7W r.1→X7W (X1J K14 ns next r).1
 | [],_,next,r,h=>by rw [X1J];exact h
 | n::ns,hf,next,r,h=>by
  rw [XDO]at hf
  rw [X1J]
  exact X7X ns hf.2 next _ ((X4d n hf.1 r.1 next h).app fun _ _ _ e=>by cases e)
end
theorem XCT {n:Nd} (h:fit n):X7W (X0F K14 n).1:=X4d n h _ _ (fun _ _ _ e=>by simp at e)
theorem X6H {N:Nd} (hl:X0H X16 N) (h:wp K14 20001 N≤20000):(X0F K14 N).1.length≤1000000:=by
 have h1:=X1L N hl [.done] 0
 have h2:=XGx K14 20001 N
 have:(X0F K14 N).1.length=(build K14 N [.done] 0).1.length:=rfl
 simp only [List.length_singleton]at h1
 omega
theorem X99 (l:List Int) (N:Nd) (at_:Int) (hl:X0H X16 N):(X0S l N at_).length≤l.length+1:=by
 unfold X0S
 split
 · simp
 ·
  unfold XJ2
  rw [X0k hl X5p]
  exact Nat.le_trans (List.length_filter_le _ _) (by simp)
mutual
theorem XBT:∀ n:Nd,XBN n=true↔X0H X16 n
 | .mk k set no kids mn mx=>by rw [XBN,X0H,Bool.and_eq_true,X9A kids];exact and_comm
theorem X9A:∀ ns:List Nd,X39 ns=true↔X0i X16 ns
 | []=>by rw [X39,X0i];simp
 | n::ns=>by rw [X39,X0i,Bool.and_eq_true,XBT n,X9A ns]
end
theorem XJF {N:Nd} (h:Nfa.cnt X16 N 1≤2000):X0H X16 N:=((Nfa.XBd X16 N 1).2 h).2.2
theorem XHz {N:Nd} (h:¬ wp K14 20001 N≤20000):¬ wr K14 1000000 N≤20000:=fun q=>h ((XAZ K14 (c:=20000) (d:=1000000) (by omega) N).1.2 q)
theorem XBU {N:Nd} (h:wp K14 20001 N≤20000):wr K14 1000000 N≤20000∧wp K14 20001 N=wr K14 1000000 N:=⟨(XAZ K14 (c:=20000) (d:=1000000) (by omega) N).1.1 h,(XAZ K14 (c:=20000) (d:=1000000) (by omega) N).2 h⟩
end
end Go.Vai
namespace Go.Vai
noncomputable section
end
end Go.Vai

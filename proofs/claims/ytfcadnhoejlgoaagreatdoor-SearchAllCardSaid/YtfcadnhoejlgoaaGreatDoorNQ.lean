/-
  What is proved here: what a step of the search and the whole search come to, in plain terms (part NQ). what the laws over patterns ask for, in plain terms (part NV). the forms of signs, as data (part NU). No conditions but those that the theorems state.
-/
import Derived.Test.YtfcadnhoejlgoaaGreatDoorNI
import Derived.Test.YtfcadnhoejlgoaaGreatDoorPureNfa3
import Derived.Test.YtfcadnhoejlgoaaGreatDoorRJ
set_option linter.unusedVariables false
set_option linter.unusedSimpArgs false
namespace Go.Vai
open Go.Nfa
noncomputable section
def X7X (S:List Sta):Prop:=∀ (set:List (Int×Int)) (no:Bool) (x:Nat),Sta.takes set no x∈S→set.length<4611686018427387904
def goQ (S:List Sta) (l:List Int) (p n:Nat) (first sz:Int) (now0:List Nat):D→List Ob→Prop:=fun r L1=>∃ seen now nn,r=.tup []∧SI S l p now0 now0.length seen now∧now.length=nn∧seen.length=n∧L1=tbl S l (p+1) n nn first sz seen now
theorem XBW {b:List Bool} {j:Nat}:j∈XJ3 b↔Nfa.mk b j:=by
 unfold XJ3 Nfa.mk
 rw [List.mem_filter,List.mem_range]
 constructor
 ·
  rintro⟨h,e⟩
  rw [getD_some (d:=false) h,e]
 ·
  intro e
  have h:=(List.getElem?_eq_some_iff.1 e).1
  exact⟨h,X4R e⟩
theorem XGi (b:List Bool):(XJ3 b).Pairwise (·<·):=List.Pairwise.filter _ List.pairwise_lt_range
theorem XAP {N:Nd} (hl:X0H X18 N) {l:List Int} {a:Nat} {es:List Nat} {S:List Sta} {s0:Nat} (hS:X0F K14 N=(S,s0)) (ha:a≤l.length) (hp:es.Pairwise (·<·)) (hm:∀ j,j∈es↔∃ t,RC S l s0 a t j∧S[t]?=some .done):es=X0T l N ((a:Nat):Int):=by
 rw [X8A (by omega),Int.toNat_natCast]
 refine XCe hp (XGi _) fun j=>?_
 have:=XH5 K14 l (X6G N hl) (i:=a) (j:=j)
 rw [hS]at this
 rw [hm,XBW,X9O K14 l (X6G N hl) ha,this]
theorem XJF {es fs:List Nat} {m:Nat} (h:es=fs) (hm:es.length=m):D.sl 1 m (es.map X0i)=.sl 1 fs.length (fs.map X0i):=by subst h hm;rfl
theorem X3X {S:List Sta} {x:Nat} {σ:Sta} (h:S[x]?=some σ):(S.flatMap X03)[x*9+0]?=(X03 σ)[0]?:=by
 have:=congrArg (fun l=>l[0]?) (X0x X0W h)
 simpa[List.getElem?_take,List.getElem?_drop]using this
theorem X8E {S:List Sta} {s:Nat} (h:plain S s):s<S.length:=by
 rcases h with⟨_,_,_,h⟩ | h<;>exact(List.getElem?_eq_some_iff.1 h).1
theorem XDs {S:List Sta} {n a len:Nat} (h:S.length=n):Nfa.Ent S len a (fun _=>False) (List.replicate n 0) [] [] :=
 Ent.fresh (by simp [h]) fun s v e=>by have:=List.eq_of_mem_replicate (List.mem_of_getElem? e);omega
end
end Go.Vai
namespace Go.Vai
open Go.Nfa
noncomputable section
theorem FnD.known {P:Program} {ov:Ov} {f:FuncId} {fn:List Value→X0A→Option (Value×X0A)} (hov:ov f=some fn) (hg:∀ h,fn [] h=some (.bool true,h)):X1G P ov f [] (.bool true):=by
 intro M g a vs ok old hlen nd hcl hobj hargs
 cases hargs
 refine Fn.known hov hg ⟨.bool true,[],g,CR.bool,hlen,Nat.le_refl _,nd,fun k hk=>⟨(hcl k hk).1,(hcl k hk).2,.inl hk⟩,hobj,X1g.refl _ _,ok,fun i b k cs e _=>e,fun i cs _ e=>⟨cs,e⟩,rfl,rfl⟩
theorem X7X.app {L:List Sta} {σ:Sta} (h:X7X L) (hσ:∀ set no x,σ=.takes set no x→set.length<4611686018427387904):X7X (L++[σ]):=by
 intro set no x hx
 rcases List.mem_append.1 hx with q | q
 · exact h set no x q
 · simp at q;exact hσ set no x q.symm
theorem X7X.set {L:List Sta} {σ:Sta} {i:Nat} (h:X7X L) (hσ:∀ set no x,σ=.takes set no x→set.length<4611686018427387904):X7X (L.set i σ):=by
 intro set no x hx
 rcases List.mem_or_eq_of_mem_set hx with q | q
 · exact h set no x q
 · exact hσ set no x q.symm
mutual
theorem X4g:∀ (n:Nd),fit n→∀ (L:List Sta) (next:Nat),X7X L→X7X (build K14 n L next).1
 | .mk k set no kids mn mx,hf,L,next,h=>by
  have hk:=hf.2.2.2.2
  rw [X1q]
  split
  · exact h.app (fun _ _ _ e=>by cases e;exact hf.1)
  ·
   split
   · exact h.app (fun _ _ _ e=>by cases e)
   ·
    split
    · exact h.app (fun _ _ _ e=>by cases e)
    ·
     split
     · exact X6I kids hk L next h
     ·
      split
      ·
       cases kids with
       | nil=>rw [X1a];exact h
       | cons x ns =>
        rw [XDZ]at hk
        rw [X1a]
        exact X7Y ns hk.2 next _ (X4g x hk.1 L next h)
      ·
       split
       ·
        cases kids with
        | nil=>rw [X1H];exact h
        | cons x ns =>
         rw [XDZ]at hk
         have hb:∀ (L:List Sta) (next:Nat),X7X L→X7X (build K14 x L next).1:=X4g x hk.1
         rw [X4M (x:=x) rfl]
         have h0:X7X (X8D (build K14 x) mx L next).1:=by
          unfold X8D
          split
          · exact(hb _ _ (h.app fun _ _ _ e=>by cases e)).set fun _ _ _ e=>by cases e
          · exact h
         have h1:=X8H (f:=fun r=>XFq (build K14 x) (X8D (build K14 x) mx L next).2 r) (q:=fun r=>X7X r.1) (fun r hr=>(hb _ _ hr).app fun _ _ _ e=>by cases e) (mx - mn).toNat _ h0
         exact X8H (f:=fun r=>XI6 (build K14 x) r) (q:=fun r=>X7X r.1) (fun r hr=>hb _ _ hr) mn.toNat _ h1
       · exact h
theorem X6I:∀ (ns:List Nd),XDZ ns→∀ (L:List Sta) (next:Nat),X7X L→X7X (X0f K14 ns L next).1
 | [],_,L,next,h=>by rw [X0f];exact h
 | n::ns,hf,L,next,h=>by
  rw [XDZ]at hf
  rw [X0f]
  exact X4g n hf.1 _ _ (X6I ns hf.2 L next h)
theorem X7Y:∀ (ns:List Nd),XDZ ns→∀ (next:Nat) (r:List Sta×Nat),X7X r.1→X7X (X1N K14 ns next r).1
 | [],_,next,r,h=>by rw [X1N];exact h
 | n::ns,hf,next,r,h=>by
  rw [XDZ]at hf
  rw [X1N]
  exact X7Y ns hf.2 next _ ((X4g n hf.1 r.1 next h).app fun _ _ _ e=>by cases e)
end
theorem XCa {n:Nd} (h:fit n):X7X (X0F K14 n).1:=X4g n h _ _ (fun _ _ _ e=>by simp at e)
theorem X6J {N:Nd} (hl:X0H X18 N) (h:wp K14 20001 N≤20000):(X0F K14 N).1.length≤1000000:=by
 have h1:=X1O N hl [.done] 0
 have h2:=XH7 K14 20001 N
 have:(X0F K14 N).1.length=(build K14 N [.done] 0).1.length:=rfl
 simp only [List.length_singleton]at h1
 omega
theorem X9B (l:List Int) (N:Nd) (at_:Int) (hl:X0H X18 N):(X0T l N at_).length≤l.length+1:=by
 unfold X0T
 split
 · simp
 ·
  unfold XJ3
  rw [X0l hl X5r]
  exact Nat.le_trans (List.length_filter_le _ _) (by simp)
mutual
theorem XBX:∀ n:Nd,XBR n=true↔X0H X18 n
 | .mk k set no kids mn mx=>by rw [XBR,X0H,Bool.and_eq_true,X9C kids];exact and_comm
theorem X9C:∀ ns:List Nd,X3C ns=true↔X0j X18 ns
 | []=>by rw [X3C,X0j];simp
 | n::ns=>by rw [X3C,X0j,Bool.and_eq_true,XBX n,X9C ns]
end
theorem XJG {N:Nd} (h:Nfa.cnt X18 N 1≤2000):X0H X18 N:=((Nfa.XBh X18 N 1).2 h).2.2
theorem XI7 {N:Nd} (h:¬ wp K14 20001 N≤20000):¬ wr K14 1000000 N≤20000:=fun q=>h ((XAY K14 (c:=20000) (d:=1000000) (by omega) N).1.2 q)
theorem XBY {N:Nd} (h:wp K14 20001 N≤20000):wr K14 1000000 N≤20000∧wp K14 20001 N=wr K14 1000000 N:=⟨(XAY K14 (c:=20000) (d:=1000000) (by omega) N).1.1 h,(XAY K14 (c:=20000) (d:=1000000) (by omega) N).2 h⟩
end
end Go.Vai
namespace Go.Vai
noncomputable section
end
end Go.Vai

/-
  What is proved here: strings.Join and strings.ReplaceAll as answers known otherwise, by the library's own contracts (part VW). No conditions but those of the layings.
-/
import Derived.Test.YtmmmjbipgngamaaGreatDoorVO
import Derived.Shelf.Strings.Replace
import Derived.Shelf.Strings.OnBuilder
set_option linter.unusedVariables false
set_option linter.unusedSimpArgs false
namespace Go.Vai
open Go.RowKit Go.Shelf Go.Proofs
noncomputable section
def XAG:List Value→Option (List ByteArray)
 | []=>some []
 | .string s::l=>match XAG l with
  | some xs=>some (s::xs)
  | none=>none
 | _::_=>none
def XAH:List Value→Heap→Option (Value×Heap):=fun args h=>match args with
 | [.slice (some ⟨b,i,none⟩) n c,.string sep]=>match h.rdL b i n with
  | some l=>match XAG l with
   | some xs=>match Nat.blt 0 n && Nat.ble n c && Nat.ble n 1000 && Nat.ble (Lib.join (xs.map (·.data.toList)) sep.data.toList).length 1000000 with
    | true=>some (.string ⟨(Lib.join (xs.map (·.data.toList)) sep.data.toList).toArray⟩,h)
    | false=>none
   | none=>none
  | none=>none
 | [.slice none 0 0,.string sep]=>some (.string ⟨#[]⟩,h)
 | _=>none
def raFn:List Value→Heap→Option (Value×Heap):=fun args h=>match args with
 | [.string s,.string old,.string new]=>match Nat.ble s.size 100000 && Nat.ble 1 old.size && Nat.ble (s.size+Lib.countB s old*new.size) 1000000 with
  | true=>some (.string ⟨(Lib.replaceAll s.data.toList old.data.toList new.data.toList).toArray⟩,h)
  | false=>none
 | _=>none
theorem XAz:∀ {l:List Value} {xs:List ByteArray},XAG l=some xs→l=xs.map Value.string:=by
 intro l
 induction l with
 | nil=>intro xs e;cases e;rfl
 | cons v l ih =>
  intro xs e
  cases v<;>simp only [XAG]at e<;>try (cases e;done)
  split at e
  ·
   rename_i ys hy
   cases e
   rw [List.map_cons,← ih hy]
  · cases e
theorem args3 {ρ:Rho} {s o n:ByteArray} {args':Array Value} (r:F2 (X0N ρ) [.string s,.string o,.string n] args'.toList):args'=#[.string s,.string o,.string n]:=by
 refine Array.toList_inj.1 ?_
 generalize args'.toList=l at r
 cases r with
 | cons r1 t=>cases t with
  | cons r2 t=>cases t with
   | cons r3 t =>
    cases t
    rw [r1.eq_of_plain rfl,r2.eq_of_plain rfl,r3.eq_of_plain rfl]
theorem ra_ok {P:Program} {ρ0:Ren} (L:Lays.n155 P ρ0) (X:Builder.Extra P ρ0) (hm:∀ w,TW w→∃ m,w.cell? ⟨ρ0.g 1,0,none⟩=some (.int .i64 m)):X2f P (ρ0.f 155) raFn:=by
 intro args h v h' e ρ w args' H r
 unfold raFn at e
 split at e
 case h_2=>cases e
 rename_i s old new
 split at e
 case h_2=>cases e
 rename_i hc
 simp only [Bool.and_eq_true,Nat.ble_eq]at hc
 cases e
 have ha:=args3 r
 subst ha
 obtain⟨m,hm⟩:=hm w H.nx.1
 exact(Any.strings_ReplaceAll L X s old new m w (by omega) hm hc.1.2 (by omega)).mono fun e' w' ⟨q1,q2⟩=>by subst q1;exact X1G H rfl q2
theorem XGC {P:Program} {ρ0:Ren} (L:Lays.n156 P ρ0) (X:Builder.Extra P ρ0):X2f P (ρ0.f 156) XAH:=by
 intro args h v h' e ρ w args' H r
 unfold XAH at e
 split at e
 ·
  rename_i b i n c sep
  split at e
  case h_2=>cases e
  rename_i l hl
  split at e
  case h_2=>cases e
  rename_i xs hxs
  split at e
  case h_2=>cases e
  rename_i hc
  simp only [Bool.and_eq_true,Nat.ble_eq,Nat.blt_eq]at hc
  obtain⟨⟨⟨h0,h1⟩,h2⟩,h3⟩:=hc
  cases e
  have hln:=X27 n i l hl
  have hlx:=XAz hxs
  have hxl:xs.length=n:=by rw [← hln,hlx,List.length_map]
  obtain⟨I,c1,hb,ha,hnc⟩:∃ I c1,ρ b=some I∧args'=#[.slice (some ⟨I.g,I.o+i,none⟩) n c1,.string sep]∧n≤c1:=by
   generalize hl':args'.toList=l' at r
   cases r with
   | cons r1 t=>cases t with
    | cons r2 t =>
     cases t
     have e2:=r2.eq_of_plain rfl
     subst e2
     rcases r1.slice_inv with⟨I,c',hb,rfl,hn,hcc,hm⟩ | ⟨rfl,_,_⟩
     · exact⟨I,c',hb,Array.toList_inj.1 (by rw [hl']),by omega⟩
     · omega
  subst ha
  obtain⟨vs',k1,k2,k3⟩:=X2C H hb n i l hl
  have cells:∀ (j:Nat) x,xs[j]?=some x→w.cell? ⟨I.g,(I.o+i)+j,none⟩=some (.string x):=by
   intro j x hx
   have hj:l[j]?=some (.string x):=by rw [hlx,List.getElem?_map,hx];rfl
   obtain⟨v',q1,q2⟩:=k3.get j _ hj
   have:=k2 j v' q1
   rw [this,← q2.eq_of_plain rfl]
  have hg:I.g<w.heap.size:=X0V H hb
  rcases Nat.lt_or_ge n 2 with hn | hn
  ·
   obtain⟨x,rfl⟩:∃ x,xs=[x]:=by
    match xs,hxl with
    | [x],_=>exact⟨x,rfl⟩
    | [],q=>simp at q;omega
    | _::_::_,q=>simp at q;omega
   have hn1:n=1:=by omega
   subst hn1
   have:=Any.strings_Join_one L X I.g (I.o+i) c1 x sep w (by have:=cells 0 x rfl;rwa [Nat.add_zero]at this)
   refine this.mono fun e' w' ⟨q1,q2⟩=>?_
   subst q1 q2
   simp only [List.map_cons,List.map_nil,Lib.join_one]
   exact X1G H rfl (Below.refl _ _)
  ·
   have:=Any.strings_Join_many L X I.g (I.o+i) c1 xs sep w cells hg (by omega) (by omega) (by omega) (by omega)
   rw [hxl]at this
   exact this.mono fun e' w' ⟨q1,q2⟩=>by subst q1;exact X1G H rfl q2
 ·
  rename_i sep
  cases e
  have ha:args'=#[.slice none 0 0,.string sep]:=by
   refine Array.toList_inj.1 ?_
   generalize args'.toList=l at r
   cases r with
   | cons r1 t=>cases t with
    | cons r2 t =>
     cases t
     rw [r1.eq_of_plain rfl,r2.eq_of_plain rfl]
  subst ha
  exact(Any.strings_Join_none L X none 0 sep w).mono fun e' w' ⟨q1,q2⟩=>by subst q1 q2;exact X1G H rfl (Below.refl _ _)
 · cases e
end
end Go.Vai

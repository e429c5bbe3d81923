/-
  What is proved here: signs out of the forms of bytes; a pattern's text sign by sign (part PLa). No conditions.
-/
import Derived.Test.YtiebldaihnbkmaaGreatDoorPureNps
import Derived.Test.YtiebldaihnbkmaaGreatDoorNQ
import Derived.Test.YtiebldaihnbkmaaGreatDoorPureEmp
set_option linter.unusedVariables false
set_option linter.unusedSimpArgs false
set_option maxRecDepth 100000
namespace Go.Vai
open Go.Nfa Go.Utf
noncomputable section
def XI4 (s:ByteArray) (f:List Nat×List Nat) (n:Nat):Prop:=∀ k,k<n→f.1.getD k 0≤sB s k∧sB s k≤f.2.getD k 0
theorem XI4.next {s:ByteArray} {f:List Nat×List Nat} {n:Nat} (h:XI4 s f n) (h1:((f.1.getD n 0:Nat):Int)≤((sB s n:Nat):Int)) (h2:((sB s n:Nat):Int)≤((f.2.getD n 0:Nat):Int)):XI4 s f (n+1):=by
 intro k hk
 rcases(show k<n∨k=n by omega)with e | e
 · exact h k e
 · subst e;exact⟨by omega,by omega⟩
def X38 (s:ByteArray):Prop:=∃ f∈X0F,s.size=f.1.length∧XI4 s f s.size
def oneS (s:ByteArray) (n:Nat) (ok:Bool):Prop:=n≤s.size∧n≤4∧(ok=true→1≤n∧∃ f∈X0F,n=f.1.length∧XI4 s f n)
theorem XIY {s:ByteArray} {n k:Nat} (hn:n≤s.size) (hk:k<n):sB (s.extract 0 n) k=sB s k:=by
 have h1:k<(s.extract 0 n).size:=by rw [ByteArray.size_extract];omega
 unfold sB
 rw [dif_pos h1,dif_pos (by omega)]
 congr 1
 rw [ByteArray.getElem_extract]
 simp
theorem XAy {s:ByteArray} {n:Nat} (h:oneS s n true):X38 (s.extract 0 n)∧1≤n:=by
 obtain⟨h1,h2,h3⟩:=h
 obtain⟨h4,f,hf,hn,hfit⟩:=h3 rfl
 have hs:(s.extract 0 n).size=n:=by rw [ByteArray.size_extract];omega
 refine⟨⟨f,hf,by rw [hs,hn],fun k hk=>?_⟩,h4⟩
 rw [hs]at hk
 rw [XIY h1 hk]
 exact hfit k hk
theorem XAz {s:ByteArray} (h:X38 s):s.size=1∨s.size=2∨s.size=3∨s.size=4:=by
 obtain⟨f,hf,hs,_⟩:=h
 have:∀ f∈X0F,f.1.length=1∨f.1.length=2∨f.1.length=3∨f.1.length=4:=by decide
 rw [hs];exact this f hf
def VI (s:ByteArray) (m i:Nat) (z:Int):Prop :=
 (i=1∧z=((sB s 0 % m:Nat):Int))∨(i=2∧z=(((sB s 0 % m)*64+sB s 1 % 64:Nat):Int)) ∨
 (i=3∧z=((((sB s 0 % m)*64+sB s 1 % 64)*64+sB s 2 % 64:Nat):Int)) ∨
 (i=4∧z=(((((sB s 0 % m)*64+sB s 1 % 64)*64+sB s 2 % 64)*64+sB s 3 % 64:Nat):Int))
theorem VI.next {s:ByteArray} {m i:Nat} {z:Int} (h:VI s m i z) (hm:m=8∨m=16∨m=32) (hi:i<4):VI s m (i+1) (X05 .i32 ((X05 .i32 (z*64))+(((sB s i) % 64:Nat):Int))):=by
 have hb:sB s 0 % m<32:=by
  rcases hm with rfl | rfl | rfl<;>omega
 generalize hx:sB s 0 % m=x at *
 unfold VI at h ⊢
 rw [hx]at h ⊢
 have b1:=Nat.mod_lt (sB s 1) (show 0<64 by decide)
 have b2:=Nat.mod_lt (sB s 2) (show 0<64 by decide)
 have b3:=Nat.mod_lt (sB s 3) (show 0<64 by decide)
 rcases h with⟨rfl,e⟩ | ⟨rfl,e⟩ | ⟨rfl,e⟩ | ⟨rfl,e⟩
 ·
  refine .inr (.inl ⟨rfl,?_⟩)
  rw [X4u (n:=z*64) (by omega) (by omega),X4u (n:=z*64+_) (by omega) (by omega)];omega
 ·
  refine .inr (.inr (.inl ⟨rfl,?_⟩))
  rw [X4u (n:=z*64) (by omega) (by omega),X4u (n:=z*64+_) (by omega) (by omega)];omega
 ·
  refine .inr (.inr (.inr ⟨rfl,?_⟩))
  rw [X4u (n:=z*64) (by omega) (by omega),X4u (n:=z*64+_) (by omega) (by omega)];omega
 · omega
theorem X46 {s:ByteArray} {z:Int} (h:X38 s) (hz:(s.size=1∧z=((sB s 0:Nat):Int))∨(s.size=2∧VI s 32 2 z)∨(s.size=3∧VI s 16 3 z)∨(s.size=4∧VI s 8 4 z)):X0a z:=by
 obtain⟨f,hf,hs,hfit⟩:=h
 have k0:=hfit 0
 have k1:=hfit 1
 have k2:=hfit 2
 have k3:=hfit 3
 unfold VI at hz
 unfold X0a
 simp only [X0F,List.mem_cons,List.not_mem_nil,or_false]at hf
 rcases hf with rfl | rfl | rfl | rfl | rfl | rfl | rfl | rfl | rfl <;>
  simp only [List.length_cons,List.length_nil,List.getD_cons_zero,List.getD_cons_succ]at hs k0 k1 k2 k3<;>omega
theorem X9C {s:ByteArray} {z:Int} {i:Nat} (h:X38 s) (hs:s.size=2) (hi:i=2) (hz:VI s 32 i z):X0a z:=X46 h (.inr (.inl ⟨hs,hi ▸ hz⟩))
theorem X9D {s:ByteArray} {z:Int} {i:Nat} (h:X38 s) (hs:s.size=3) (hi:i=3) (hz:VI s 16 i z):X0a z:=X46 h (.inr (.inr (.inl ⟨hs,hi ▸ hz⟩)))
theorem X9E {s:ByteArray} {z:Int} {i:Nat} (h:X38 s) (hs:s.size=4) (hi:i=4) (hz:VI s 8 i z):X0a z:=X46 h (.inr (.inr (.inr ⟨hs,hi ▸ hz⟩)))
def X2E (l:List Int):Prop:=∀ r∈l,X0a r
theorem X2E.snoc {l:List Int} {r:Int} (h:X2E l) (hr:X0a r):X2E (l++[r]):=by
 intro x hx
 rcases List.mem_append.1 hx with h1 | h1
 · exact h x h1
 · rw [List.mem_singleton]at h1;subst h1;exact hr
theorem XEQ:X0a 65533:=.inr (by decide)
theorem XER {l:List Int} {n c:Nat} (h:l.length=n) (hs:X2E l):∃ m:List Int,D.sl 1 (min n c) ((l.take (min n c)).map (D.int .i32))=.sl 1 m.length (m.map (D.int .i32))∧m.length≤c∧X2E m :=
 ⟨l.take (min n c),by rw [List.length_take,h,Nat.min_eq_left (Nat.min_le_left n c)],by rw [List.length_take];omega,fun r hr=>hs r (List.mem_of_mem_take hr)⟩
theorem XB0 {m n:Nat} (h:0<n) (hm:m<2147483648):X9j .quo (.int .i32 (m:Int)) (.int .i32 (n:Int))=some (.int .i32 ((m / n:Nat):Int)):=by
 have e1:Nat.blt 0 n=true:=by simpa using h
 show(match kEq .i32 .i32 with | true=>XDx .quo .i32 (Int.ofNat m) (Int.ofNat n) | false=>none)=_
 have h2:m.div n≤m:=Nat.div_le_self m n
 have h3:X05 .i32 (Int.ofNat (m.div n))=((m.div n:Nat):Int):=X4u (n:=((m.div n:Nat):Int)) (by omega) (by omega)
 simp only [show kEq .i32 .i32=true from rfl,XDx,XJ6,e1,h3]
 rfl
def X85 (r:Int):ByteArray:=strOfNums ((XBA r).map fun b:Nat=>(b:Int))
def XIZ (r:Int):ByteArray:=(⟨#[92]⟩:ByteArray)++X85 r
def X30 (a:List Int):ByteArray:=a.foldl (fun s r=>s++XIZ r) ByteArray.empty
theorem X86 (a:List Int) (r:Int):X30 (a++[r])=X30 a++((⟨#[92]⟩:ByteArray)++X85 r):=List.foldl_append
theorem XES (n:Nat):(X4V n).length≤4:=by
 unfold X4V;split
 · simp
 ·
  split
  · simp
  · split<;>simp
theorem X5R (r:Int):(X85 r).size≤4:=by
 show(((XBA r).map fun b:Nat=>(b:Int)).map fun n=>UInt8.ofNat n.toNat).toArray.size≤4
 simp only [List.size_toArray,List.length_map]
 exact XES _
theorem XB1 {r:Int} (h:X0a r):X0D (X85 r)=XBA r:=by
 obtain⟨n,e,hn⟩:=X5X h
 rw [X57]
 unfold X85
 rw [strOfNums_data,List.map_map,List.map_map]
 have hl:∀ b∈XBA r,b<256:=by
  intro b hb
  unfold XBA at hb
  rw [e,Int.toNat_natCast]at hb
  exact XCO n hn b hb
 conv=>rhs;rw [← List.map_id (XBA r)]
 refine List.map_congr_left fun b hb=>?_
 have:=hl b hb
 simp only [Function.comp,Int.toNat_natCast,UInt8.toNat_ofNat',id]
 omega
theorem X6f:∀ (a:List Int),(∀ r∈a,X0a r)→X0D (X30 a)=reB a:=by
 have key:∀ (n:Nat) (a:List Int),a.length=n→(∀ r∈a,X0a r)→X0D (X30 a)=reB a:=by
  intro n
  induction n with
  | zero=>intro a h _;rw [List.length_eq_zero_iff.1 h];rfl
  | succ n ih =>
   intro a h ha
   have hne:a≠[]:=by intro e;subst e;simp at h
   rw [← List.dropLast_concat_getLast hne,X86,X88,X88,ih a.dropLast (by rw [List.length_dropLast];omega) (fun r hr=>ha r (List.dropLast_subset a hr)),XB1 (ha _ (List.getLast_mem hne))]
   unfold reB
   rw [List.flatMap_append,List.flatMap_cons,List.flatMap_nil,List.append_nil]
   rfl
 exact fun a=>key _ a rfl
theorem X87:∀ (a:List Int),(X30 a).size≤5*a.length:=by
 have key:∀ (a:List Int) (s:ByteArray),(a.foldl (fun s r=>s++XIZ r) s).size≤s.size+5*a.length:=by
  intro a
  induction a with
  | nil=>intro s;simp
  | cons r a ih =>
   intro s
   have:=ih (s++XIZ r)
   have h2:=X5R r
   have h3:(XIZ r).size=1+(X85 r).size:=by unfold XIZ;rw [ByteArray.size_append];rfl
   rw [ByteArray.size_append]at this
   simp only [List.foldl_cons,List.length_cons]
   omega
 intro a
 have:=key a ByteArray.empty
 simpa[X30]using this
theorem XCF {a:List Int} {i:Nat} (hi:i<a.length):D.str (X30 (a.take i)++((⟨#[92]⟩:ByteArray)++X85 (a.getD i 0)))=.str (X30 (a.take (i+1))):=by
 rw [List.take_add_one,List.getElem?_eq_getElem hi,Option.toList_some,X86,List.getD_eq_getElem?_getD,List.getElem?_eq_getElem hi];rfl
theorem catA (r:Int):(⟨#[92]⟩:ByteArray).size+(X85 r).size≤1000000000:=by have:=X5R r;show 1+_≤_;omega
theorem catB (a:List Int) (i:Nat) (r:Int) (h:a.length≤12):(X30 (a.take i)).size+((⟨#[92]⟩:ByteArray)++X85 r).size≤1000000000:=by
 have h1:=X87 (a.take i)
 have h2:=X5R r
 rw [ByteArray.size_append]
 have h3:(⟨#[92]⟩:ByteArray).size=1:=rfl
 rw [List.length_take]at h1
 omega
theorem XB2 {a:List Int} {i:Nat} (h:∀ r∈a.take i,¬ r=65533) (hi:i<a.length) (hb:¬ a.getD i 0=65533):∀ r∈a.take (i+1),¬ r=65533:=by
 intro r hr
 rw [List.take_add_one,List.getElem?_eq_getElem hi,Option.toList_some]at hr
 rcases List.mem_append.1 hr with e | e
 · exact h r e
 ·
  rw [List.mem_singleton]at e
  rw [List.getD_eq_getElem?_getD,List.getElem?_eq_getElem hi]at hb
  rw [e];exact hb
theorem XCG {a:List Int} {i:Nat} (h:X2E a) (hi:i<a.length):X0a (a.getD i 0):=by
 rw [List.getD_eq_getElem?_getD,List.getElem?_eq_getElem hi];exact h _ (List.getElem_mem hi)
theorem XIa {a:List Int} (ha:X2E a) (hb:∀ r∈a,¬ r=65533) (h:X2M (X30 a)=none):60<(X30 a).size∨a=[]:=by
 rw [XAI (X6f a ha) ha hb]at h
 split at h
 · assumption
 · cases h
theorem XGe {a:List Int} {N:Nd} (ha:X2E a) (hb:∀ r∈a,¬ r=65533) (h:X2M (X30 a)=some N):¬ 60<(X30 a).size∧a≠[]∧N=XBi a:=by
 rw [XAI (X6f a ha) ha hb]at h
 split at h
 · cases h
 ·
  rename_i h2
  cases h
  exact⟨fun e=>h2 (.inl e),fun e=>h2 (.inr e),rfl⟩
def XBh (l a:List Int) (i k:Nat) (ok:Bool):Prop:=ok=true↔(i+a.length≤l.length∧∀ x,x<k→l[i+x]?=a[x]?)
theorem XBh.first {l a:List Int} {i:Nat}:XBh l a i 0 (decide (((i+a.length:Nat):Int)≤((l.length:Nat):Int))):=by
 unfold XBh
 rw [decide_eq_true_eq]
 constructor
 · intro h;exact⟨by omega,fun x hx=>absurd hx (by omega)⟩
 · intro h;omega
theorem XBh.next {l a:List Int} {i k:Nat} (h:XBh l a i k true) (hk:k<a.length):XBh l a i (k+1) (decide (l.getD (i+k) 0=a.getD k 0)):=by
 unfold XBh at h ⊢
 obtain⟨h1,h2⟩:=h.1 rfl
 have hl:i+k<l.length:=by omega
 rw [decide_eq_true_eq]
 have e:l.getD (i+k) 0=a.getD k 0↔l[i+k]?=a[k]?:=by
  rw [List.getD_eq_getElem?_getD,List.getD_eq_getElem?_getD,List.getElem?_eq_getElem hl,List.getElem?_eq_getElem hk]
  simp
 rw [e]
 constructor
 ·
  intro h3
  refine⟨h1,fun x hx=>?_⟩
  rcases(show x<k∨x=k by omega)with q | q
  · exact h2 x q
  · subst q;exact h3
 · intro h3;exact h3.2 k (by omega)
theorem XBh.fin {l a:List Int} {i k:Nat} {ok:Bool} (h:XBh l a i k ok) (h0:a≠[]) (hk:k≤a.length) (he:¬ k<a.length∨ok=false):ok=XEe l a i:=by
 have hp:0<a.length:=List.length_pos_iff.2 h0
 have hb:∀ x,x<a.length→¬ i+a.length≤l.length→XEe l a i=false:=fun _ _ hn=>by
  unfold XEe
  rw [decide_eq_false_iff_not]
  intro h3
  have:=h3 (a.length - 1) (by omega)
  rw [List.getElem?_eq_none (by omega),List.getElem?_eq_getElem (by omega)]at this
  cases this
 cases ok with
 | true =>
  have h2:=h.1 rfl
  have hk2:k=a.length:=by rcases he with q | q;omega;cases q
  symm;unfold XEe;rw [decide_eq_true_eq]
  intro x hx
  exact h2.2 x (by omega)
 | false =>
  by_cases q:i+a.length≤l.length
  ·
   symm;unfold XEe;rw [decide_eq_false_iff_not]
   intro h3
   have:false=true:=h.2 ⟨q,fun x hx=>h3 x (by omega)⟩
   cases this
  · exact(hb 0 hp q).symm
theorem XAD {l a:List Int} {N:Nd} (hN:N=XBi a) (h0:a≠[]) (h1:X2E a) (h2:∀ r∈a,¬ r=65533) {i:Nat} (hi:i≤l.length) {ok:Bool} (hok:ok=XEe l a i):X5M l N ((i:Nat):Int)=if ok=true then[i+a.length]else[]:=by
 rw [hN,XEf h0 h1 h2 hi,hok]
end
end Go.Vai

/-
  What is proved here: one operation of a plain interpreter of Go code, whatever it is, is matched by the machine's (part H What is defined here: a plain interpreter of Go code: operations in the text's order, the control of No conditions but those that the theorems state.
-/
import Derived.Test.YtmmmjbipgngamaaGreatDoorVE
import Derived.Orders
import Derived.Laws.Cover4
import Derived.OrdersIn
import Derived.RangeFuncRecord
set_option linter.unusedVariables false
set_option linter.unusedSimpArgs false
namespace Go.Vai
noncomputable section
def u8s:List Value→Option (List Int)
 | []=>some []
 | .int .u8 n::vs=>match u8s vs with
  | some l=>some (n::l)
  | none=>none
 | _=>none
theorem XEg:∀ (vs:List Value) (l:List Int),u8s vs=some l→vs=l.map (Value.int .u8):=by
 intro vs
 induction vs with
 | nil=>intro l h;simp only [u8s,Option.some.injEq]at h;subst h;rfl
 | cons v vs ih =>
  intro l h
  unfold u8s at h
  split at h
  · rename_i heq;cases heq
  ·
   rename_i n vs' heq
   cases heq
   split at h
   ·
    rename_i l' hl
    cases h
    rw [ih l' hl];rfl
   · cases h
  · cases h
def X2J (s:ByteArray):List Value:=s.data.toList.map fun b=>Value.int .u8 b.toNat
def XAm (P:Program) (src dst:TypeId) (x:Value):Option Value :=
 match x with
 | .int _ n=>match P.underlying src,P.underlying dst with
  | some _,some (.int k)=>some (.int k (X0X k n))
  | _,_=>none
 | _=>none
theorem X97 {P:Program} {ρ:Rho} {src dst:TypeId} {x x' v:Value} (h:XAm P src dst x=some v) (r:X0N ρ x x'):SP P ρ (convert src dst x') v:=by
 unfold XAm at h
 split at h
 case h_2=>cases h
 rename_i k n
 split at h
 case h_2=>cases h
 rename_i d k' hs hd
 cases h
 have:=r.eq_of_plain rfl;subst this
 refine⟨_,fun w=>?_,.plain rfl⟩
 simp only [convert,Sem.run_bind,X00 hs,X00 hd,Result.andThen_ok,X1v]
 rfl
def X2e (P:Program) (h:Heap) (src dst:TypeId) (x:Value):Option (Value×Heap) :=
 match x with
 | .slice (some ⟨b,i,none⟩) n _=>match P.underlying src,P.underlying dst with
  | some (.slice e),some .string=>match P.underlying e with
   | some (.int .u8)=>match h.rdL b i n with
    | some l=>match u8s l with
     | some xs=>some (.string (strOfNums xs),h)
     | none=>none
    | none=>none
   | _=>none
  | _,_=>none
 | .string s=>match P.underlying src,P.underlying dst with
  | some _,some (.slice e)=>match P.underlying e with
   | some (.int .u8)=>match X3m (X2J s)with
    | true=>X0n s.size s.size (h.new (X2z 0 .leaf (X2J s)) s.size 1)
    | false=>none
   | _=>none
  | some _,some _=>match X1B P (convert src dst (.string s))with
   | some v=>some (v,h)
   | none=>none
  | _,_=>none
 | x=>match X01 x with
  | true=>match X1B P (convert src dst x)with
   | some v=>some (v,h)
   | none=>none
  | false=>none
theorem X4Y {P:Program} {ρ:Rho} {h h':Heap} {w:World} (H:X0f ρ h w) {s:Sem Value} {v:Value} (e:(match X1B P s with | some v=>some (v,h) | none=>none)=some (v,h')):SM P ρ w s v h':=by
 split at e
 ·
  rename_i u hu
  cases e
  exact(X0i hu).toSM H
 · cases e
theorem X65 {ρ:Rho} {h h':Heap} {w:World} {s:ByteArray} {e:TypeId} (H:X0f ρ h' (w.drew.alloc (.cells (Lib.bytesCells w e s) e))) (hz:∀ b I,ρ b=some I→I.z≠none→I.g<w.heap.size) (hz2:∀ k,TG k→k<w.heap.size):X0f ρ h' (Lib.bytesWorld w e s):=by
 refine H.world (by rw [Lib.bytesWorld_size];simp) ?_ ?_ (fun g r hn hh=>by
  have hlt:g<w.heap.size+1:=by have:=(Array.getElem?_eq_some_iff.1 hh).1;simpa using this
  by_cases hg:g=w.heap.size
  ·
   subst hg
   have h2:(w.drew.alloc (.cells (Lib.bytesCells w e s) e)).heap[w.heap.size]?=some (.cells (Lib.bytesCells w e s) e):=by
    show(w.heap.push _)[w.heap.size]?=_
    simp
   rw [h2]at hh;cases hh;cases hn
  ·
   rw [Lib.bytesWorld_at_old w e s g (by omega)]
   have h2:(w.drew.alloc (.cells (Lib.bytesCells w e s) e)).heap[g]?=w.heap[g]?:=by
    show(w.heap.push _)[g]?=_
    rw [Array.getElem?_push,if_neg (by omega)]
   rw [h2]at hh;exact hh) (fun b I hb hn o hh=>by
  have hlt:=hz b I hb hn
  rw [Lib.bytesWorld_at_old w e s I.g (by omega)]
  have h2:(w.drew.alloc (.cells (Lib.bytesCells w e s) e)).heap[I.g]?=w.heap[I.g]?:=by
   show(w.heap.push _)[I.g]?=_
   rw [Array.getElem?_push,if_neg (by omega)]
  rw [h2]at hh;exact hh) (fun k hk _=>by
  have hlt:=hz2 k hk
  rw [Lib.bytesWorld_at_old w e s k (by omega)]
  show _=(w.heap.push _)[k]?
  rw [Array.getElem?_push,if_neg (by omega)])
 ·
  intro b I hb j hj
  obtain⟨B,C,d1,_⟩:=H.dom b I hb
  obtain⟨k1,k2,_⟩:=H.img b I B hb d1
  have hlt:I.g<w.heap.size+1:=by simpa using k1
  by_cases hg:I.g=w.heap.size
  ·
   have:(w.drew.alloc (.cells (Lib.bytesCells w e s) e)).cell? ⟨I.g,j,none⟩=(Lib.bytesCells w e s)[j]?:=by
    rw [hg];exact cell?_new w.drew _ e j
   rw [this,hg]
   simp [World.cell?,Lib.bytesWorld_at_new]
  ·
   rw [Lib.bytesWorld_old w e s _ (by simp;omega)]
   exact(World.cell?_alloc_lt w.drew _ _ (by simp;omega)).symm
 ·
  intro b I hb j ho hj hf
  obtain⟨B,C,d1,_⟩:=H.dom b I hb
  obtain⟨k1,k2,_⟩:=H.img b I B hb d1
  have hlt:I.g<w.heap.size+1:=by simpa using k1
  by_cases hg:I.g=w.heap.size
  ·
   obtain⟨v,hv⟩:=k2 j ho hj
   rw [hg]at hv
   have hv:(Lib.bytesCells w e s)[j]?=some v:=by rw [← hv];exact(cell?_new w.drew _ e j).symm
   have hjs:j<(Lib.bytesCells w e s).size:=by
    rcases Nat.lt_or_ge j (Lib.bytesCells w e s).size with hh | hh
    · exact hh
    · rw [Array.getElem?_eq_none hh]at hv;cases hv
   rw [hg]
   simp [World.frozen?,Lib.bytesWorld_at_new]
   omega
  ·
   have:(Lib.bytesWorld w e s).frozen? ⟨I.g,j,none⟩=w.frozen? ⟨I.g,j,none⟩:=by
    simp only [World.frozen?]
    rw [Lib.bytesWorld_at_old w e s I.g (by omega)]
   rw [this]
   rw [World.frozen?_alloc_old w.drew _ _ (by simp;omega)]at hf
   simpa using hf
theorem X5g {P:Program} {ρ:Rho} {h h':Heap} {w:World} (H:X0f ρ h w) {src dst:TypeId} {x x' v:Value} (e:X2e P h src dst x=some (v,h')) (r:X0N ρ x x'):SM P ρ w (convert src dst x') v h':=by
 unfold X2e at e
 split at e
 ·
  rename_i b i n c
  split at e
  case h_2=>cases e
  rename_i el hs hd
  split at e
  case h_2=>cases e
  rename_i he
  split at e
  case h_2=>cases e
  rename_i l hl
  split at e
  case h_2=>cases e
  rename_i xs hxs
  cases e
  have hlx:=XEg _ _ hxs
  rcases r.slice_inv with⟨I,c',hb,rfl,_⟩ | ⟨rfl,rfl,a',rfl⟩
  ·
   obtain⟨vs',q1,q2,q3⟩:=X2C H hb _ _ _ hl
   have hvs:vs'=xs.map (Value.int .u8):=by
    rw [← hlx];exact q3.eq_of_plain (by rw [hlx];simp [X03])
   refine⟨_,ρ,w,run_convert_bytes_arg w src el hs he I.g (I.o+i) n c' xs (by rw [hvs]at q1;simpa using q1) (fun j hj=>?_) dst hd,.plain rfl,H,.refl _ _,.refl _ _⟩
   refine q2 j _ ?_
   rw [hvs]at q1 ⊢
   simp at q1
   simp [List.getD,List.getElem?_eq_getElem (show j<xs.length by omega)]
  ·
   have:l=[]:=by have:=X27 _ _ _ hl;simpa using this
   subst this
   simp [u8s]at hxs
   subst hxs
   refine⟨.string (strOfNums []),ρ,w,?_,.plain rfl,H,.refl _ _,.refl _ _⟩
   obtain⟨ab,ao,asp⟩:=a'
   have hlc:(loadCells ⟨ab,ao,asp⟩ 0).run P w=.ok (([]:List Int).map (Value.int .u8)).toArray w:=rfl
   rw [run_convert_bytes_string w src dst el _ 0 0 hs he hd,run_bytesToString w _ 0 0 [] hlc]
   rfl
 ·
  rename_i s
  have:=r.eq_of_plain rfl;subst this
  split at e
  ·
   rename_i us el hs hd
   split at e
   case h_2=>cases e
   rename_i he
   split at e
   case h_2=>cases e
   rename_i hsh
   unfold X0n at e
   split at e
   case h_2=>cases e
   rename_i id h₁ hnw
   cases e
   have hge:=grownCap_ge w s.size 0 el
   have hsz:(Lib.bytesCells w el s).size=s.size+(grownCap w s.size 0 el - s.size):=by simp [Lib.bytesCells]
   obtain⟨ρ',p1,p2,p3,p4⟩:=X3E H.drew hnw (Lib.bytesCells w el s) el (by omega) (fun j u hj hu=>by
    have hu:=X1n hsh hu
    refine⟨u,?_,.plain ?_⟩
    ·
     simp only [X2J,List.getElem?_map]at hu
     have hj':j<s.data.size:=hj
     simp only [Lib.bytesCells]
     rw [Array.getElem?_append_left (by simpa using hj')]
     simpa using hu
    ·
     simp only [X2J,List.getElem?_map,Option.map_eq_some_iff]at hu
     obtain⟨z,_,rfl⟩:=hu
     rfl)
   refine⟨.slice (some ⟨w.heap.size,0,none⟩) s.size (grownCap w s.size 0 el),ρ',Lib.bytesWorld w el s,Lib.run_convert_string_bytes w src dst el s hs hd he,?_,X65 (h:=h) p2 (fun b I e n=>X0V H (p3.zn b I e n)) (fun k hk=>H.nx.1.lt hk),p3.undrew,?_⟩
   ·
    have hx:X13 ρ' (.slice (some ⟨id,0,none⟩) s.size s.size) (.slice (some ⟨w.drew.heap.size,0+0,none⟩) s.size (grownCap w s.size 0 el)):=by
     refine X13.slice p1 (Nat.le_refl _) hge ?_
     simp only [hsz];omega
    exact .one (.one hx)
   ·
    refine⟨?_,?_,?_,by rw [Lib.bytesWorld_size];omega,fun k hk _=>Lib.bytesWorld_at_old w el s k hk⟩ <;>
     (unfold Lib.bytesWorld World.freeze;split<;>rfl)
  · exact X4Y H e
  · cases e
 ·
  split at e
  ·
   rename_i hp
   have:=r.eq_of_cellsPlain hp;subst this
   exact X4Y H e
  · cases e
def XG0:List Value→Option (List Int)
 | []=>some []
 | .int .i32 n::vs=>match XG0 vs with
  | some l=>some (n::l)
  | none=>none
 | _=>none
theorem XG1:∀ (vs:List Value) (l:List Int),XG0 vs=some l→vs=l.map (Value.int .i32):=by
 intro vs
 induction vs with
 | nil=>intro l h;simp only [XG0,Option.some.injEq]at h;subst h;rfl
 | cons v vs ih =>
  intro l h
  unfold XG0 at h
  split at h
  · rename_i he;cases he
  ·
   rename_i n vs' he
   cases he
   split at h
   ·
    rename_i l' hl'
    cases h
    rw [ih _ hl'];rfl
   · cases h
  · cases h
def X5h (P:Program) (h:Heap) (src dst:TypeId) (x:Value):Option (Value×Heap) :=
 match x with
 | .slice (some ⟨b,i,none⟩) n _=>match P.underlying src,P.underlying dst with
  | some (.slice e),some .string=>match P.underlying e with
   | some (.int .i32)=>match h.rdL b i n with
    | some l=>match XG0 l with
     | some xs=>some (.string (runesBytes xs),h)
     | none=>none
    | none=>none
   | _=>none
  | _,_=>none
 | _=>none
theorem X88 {P:Program} {ρ:Rho} {h h':Heap} {w:World} (H:X0f ρ h w) {src dst:TypeId} {x x' v:Value} (e:X5h P h src dst x=some (v,h')) (r:X0N ρ x x'):SM P ρ w (convert src dst x') v h':=by
 unfold X5h at e
 split at e
 case h_2=>cases e
 rename_i b i n c
 split at e
 case h_2=>cases e
 rename_i el hs hd
 split at e
 case h_2=>cases e
 rename_i he
 split at e
 case h_2=>cases e
 rename_i l hl
 split at e
 case h_2=>cases e
 rename_i xs hxs
 cases e
 have hlx:=XG1 _ _ hxs
 have key:∀ (a:Addr) (c':Nat),(loadCells a n).run P w=.ok (xs.map (Value.int .i32)).toArray w→(convert src dst (.slice (some a) n c')).run P w=.ok (.string (runesBytes xs)) w:=by
  intro a c' hlc
  rw [run_convert_runes_string w src dst el _ _ _ hs he hd]
  exact run_runesToString w a n c' xs hlc
 rcases r.slice_inv with⟨I,c',hb,rfl,_⟩ | ⟨rfl,rfl,a',rfl⟩
 ·
  obtain⟨vs',q1,q2,q3⟩:=X2C H hb _ _ _ hl
  have hvs:vs'=xs.map (Value.int .i32):=by
   rw [← hlx];exact q3.eq_of_plain (by rw [hlx];simp [X03])
  have hlc:=X1Y (P:=P) (w:=w) (g:=I.g) (o:=I.o+i) (vs:=vs') q2
  rw [q1,hvs]at hlc
  exact⟨_,ρ,w,key _ c' hlc,.plain rfl,H,.refl _ _,.refl _ _⟩
 ·
  have:l=[]:=by have:=X27 _ _ _ hl;simpa using this
  subst this
  simp [XG0]at hxs
  subst hxs
  exact⟨_,ρ,w,key a' 0 rfl,.plain rfl,H,.refl _ _,.refl _ _⟩
def X46 (P:Program) (h:Heap) (src dst:TypeId) (x:Value):Option (Value×Heap) :=
 match XAm P src dst x with
 | some v=>some (v,h)
 | none=>match X5h P h src dst x with
  | some r=>some r
  | none=>X2e P h src dst x
theorem X66 {P:Program} {ρ:Rho} {h h':Heap} {w:World} (H:X0f ρ h w) {src dst:TypeId} {x x' v:Value} (e:X46 P h src dst x=some (v,h')) (r:X0N ρ x x'):SM P ρ w (convert src dst x') v h':=by
 unfold X46 at e
 split at e
 · rename_i u hu;cases e;exact(X97 hu r).toSM H
 ·
  split at e
  · rename_i q hq;cases e;exact X88 H hq r
  · exact X5g H e r
def Heap.setObj (h:Heap) (b:Nat) (L:XDr):Heap:={ blks:=h.blks,next:=h.next,cls:=h.cls,objs:=h.objs.put b L }
def Heap.newObj (h:Heap) (L:XDr):Option (Nat×Heap) :=
 match h.new .leaf 0 0 with
 | some (b,h')=>some (b,h'.setObj b L)
 | none=>none
theorem cell?_of_heap {w w':World} {a:Addr} (h:w'.heap[a.block]?=w.heap[a.block]?):w'.cell? a=w.cell? a:=by
 unfold World.cell?;rw [h]
theorem frozen?_of_heap {w w':World} {a:Addr} (h:w'.heap[a.block]?=w.heap[a.block]?):w'.frozen? a=w.frozen? a:=by
 unfold World.frozen?;rw [h]
theorem cell?_noCells {w:World} {a:Addr} {o:Obj} (n:X1l o=true) (h:w.heap[a.block]?=some o):w.cell? a=none:=by
 unfold World.cell?;rw [h];cases o<;>first | rfl | cases n
theorem frozen?_noCells {w:World} {a:Addr} {o:Obj} (n:X1l o=true) (h:w.heap[a.block]?=some o):w.frozen? a=false:=by
 unfold World.frozen?;rw [h];cases o<;>first | rfl | cases n
theorem X0f.setObj {ρ:Rho} {h:Heap} {w:World} (H:X0f ρ h w) {b:Nat} {I:Img} {L:XDr} (hb:ρ b=some I) (hL:h.objs.get b=some L) {o':Obj} (no':X1l o'=true)
  {L':XDr} (hL':X7o ρ (w.putObj I.g o') I.g L'):X0f ρ (h.setObj b L') (w.putObj I.g o'):=by
 obtain⟨o,no,hr⟩:=(H.lp b I L hb hL).obj
 have hlt:I.g<w.heap.size:=(Array.getElem?_eq_some_iff.1 hr).1
 have hbn:=H.ld b L hL
 have hnx:=H.nx
 have hp:(w.putObj I.g o').heap[I.g]?=some o':=World.putObj_heap_same hlt
 have cell:∀ a:Addr,(w.putObj I.g o').cell? a=w.cell? a:=by
  intro a
  by_cases e:a.block=I.g
  · rw [cell?_noCells no' (by rw [e];exact hp),cell?_noCells no (by rw [e];exact hr)]
  · exact cell?_of_heap (World.putObj_heap_other e)
 have froz:∀ a:Addr,(w.putObj I.g o').frozen? a=w.frozen? a:=by
  intro a
  by_cases e:a.block=I.g
  · rw [frozen?_noCells no' (by rw [e];exact hp),frozen?_noCells no (by rw [e];exact hr)]
  · exact frozen?_of_heap (World.putObj_heap_other e)
 refine⟨⟨H.nx.1.go fun k hk=>World.putObj_heap_other (fun(e:k=I.g)=>H.nx.2 b I hb (e ▸ hk)),H.nx.2⟩,H.dom,?_,?_,H.one,H.fin,H.glob,?_,?_,?_,?_,?_⟩
 ·
  intro c J B e1 e2
  obtain⟨k1,k2,k3⟩:=H.img c J B e1 e2
  exact⟨by simpa using k1,fun j ho hj=>by rw [cell];exact k2 j ho hj,fun hro j ho hj=>by rw [froz];exact k3 hro j ho hj⟩
 ·
  intro c J B C e1 e2 e3 e4 i v hi hv
  rw [cell];exact H.val c J B C e1 e2 e3 e4 i v hi hv
 ·
  intro c J M e1 e2
  have e2':(h.objs.put b L').get c=some M:=e2
  by_cases hc:c=b
  ·
   subst hc
   rw [hb]at e1;cases e1
   rw [Tr.get_put_same (by omega)]at e2'
   cases e2'
   exact hL'
  ·
   rw [Tr.get_put_other hc]at e2'
   have hne:J.g≠I.g:=fun eg=>hc (H.li c b J I M L e1 hb e2' hL eg)
   exact(H.lp c J M e1 e2').go (Ext.refl ρ) fun r _ hr=>by rw [World.putObj_heap_other hne];exact hr
 ·
  intro c M e
  have e':(h.objs.put b L').get c=some M:=e
  by_cases hc:c=b
  · subst hc;exact hbn
  · rw [Tr.get_put_other hc]at e';exact H.ld c M e'
 ·
  intro c c' J J' M M' e1 e2 l1 l2 eg
  have old:∀ x M,(h.objs.put b L').get x=some M→∃ M',h.objs.get x=some M':=by
   intro x M e
   by_cases hc:x=b
   · subst hc;exact⟨L,hL⟩
   · rw [Tr.get_put_other hc]at e;exact⟨M,e⟩
  obtain⟨_,m1⟩:=old c M l1
  obtain⟨_,m2⟩:=old c' M' l2
  exact H.li c c' J J' _ _ e1 e2 m1 m2 eg
 ·
  intro c J M e1 e2
  have e2':(h.objs.put b L').get c=some M:=e2
  by_cases hc:c=b
  · subst hc;exact H.lz c J L e1 hL
  · rw [Tr.get_put_other hc]at e2';exact H.lz c J M e1 e2'
 ·
  intro c J o T e1 ez
  obtain⟨s1,s2,s3,s4⟩:=H.st c J o T e1 ez
  refine⟨s1,s2,s3,fun B C h1 h2 ht=>?_⟩
  have hh:=s4 B C h1 h2 ht
  rw [World.putObj_heap_other]
  · exact hh
  ·
   rintro eg
   rw [eg,hr]at hh;cases hh
   rw [no]at s3;cases s3
theorem Fr.putObj {ρ:Rho} {w w':World} {g:Nat} {o:Obj} (f:Fr ρ w w') (h:w.heap.size≤g∨∃ b I,ρ b=some I∧I.g=g):Fr ρ w (w'.putObj g o) :=
 ⟨f.os,f.tape,f.output,by rw [World.putObj_size];exact f.size,fun k hk hn=>by
  rw [World.putObj_heap_other]
  · exact f.keep k hk hn
  ·
   rcases h with h | ⟨b,I,hb,hg⟩
   · omega
   · rintro rfl;exact hn b I hb hg⟩
theorem X0f.newObj {ρ:Rho} {h h':Heap} {w w':World} {b g:Nat} {L:XDr} (H:X0f ρ h w) (e:h.newObj L=some (b,h')) (hs:w.heap.size≤g) (hg:g<w'.heap.size) (hw:∀ k,k<w.heap.size→w'.heap[k]?=w.heap[k]?)
  (hL:∀ ρ',Ext ρ ρ'→X7o ρ' w' g L):X0f (upd ρ b ⟨g,0,0,0,none⟩) h' w'∧b=h.next∧ρ b=none∧Ext ρ (upd ρ b ⟨g,0,0,0,none⟩):=by
 unfold Heap.newObj at e
 split at e
 case h_2=>cases e
 rename_i b₁ h₁ hn
 cases e
 unfold Heap.new at hn
 split at hn
 case h_2=>cases hn
 rename_i hlt
 have hlt:True:=trivial
 cases hn
 have hext:=H.ext_upd ⟨g,0,0,0,none⟩
 have loopw:∀ (k:Nat) (o:Obj),X1l o=true→w.heap[k]?=some o→w'.heap[k]?=some o:=fun k r _ hr=>by
  rw [hw k (Array.getElem?_eq_some_iff.1 hr).1];exact hr
 have A:X0f (upd ρ h.next ⟨g,0,0,0,none⟩) { blks:=h.blks.put h.next ⟨.leaf,0,0,h.next,false⟩,next:=h.next+1,cls:=h.cls.put h.next ⟨h.next,h.next⟩,objs:=h.objs } w':=by
  have size:w.heap.size≤w'.heap.size:=by omega
  refine H.add .leaf 0 0 h.next h.next w' ⟨g,0,0,0,none⟩ ⟨fun k _ hk=>hw k hk,fun t=>by have:=H.nx.1.lt t;simp only at this;omega⟩ (Nat.le_refl _) size hg (fun j _ hj=>absurd hj (Nat.not_lt_zero _)) (fun j _ hj=>absurd hj (Nat.not_lt_zero _)) rfl (by simp) (fun i v hi=>absurd hi (Nat.not_lt_zero _)) ?_ ?_ ?_ ?_ ?_ loopw rfl (fun c J B e hB _ o hh=>by rw [hw J.g (X0V H e)];exact hh)
  ·
   intro c J e j hj
   have:=hw J.g (X0V H e)
   exact⟨fun⟨v,hv⟩=>⟨v,by rw [cell?_of_heap this];exact hv⟩,fun hf=>by rw [frozen?_of_heap this];exact hf⟩
  · intro c J B C e _ _ _ _ i _;exact cell?_of_heap (hw J.g (X0V H e))
  · intro c J B e _ hg';have:=X0V H e;simp at hg';omega
  ·
   intro c J B C e hB hc' _ hm
   obtain⟨_,_,_,_,d3,_⟩:=H.dom c J e
   omega
  · intro c J B e _ _ hm;obtain⟨_,_,_,_,d3,_⟩:=H.dom c J e;omega
 refine⟨⟨A.nx,A.dom,A.img,A.val,A.one,A.fin,A.glob,?_,?_,?_,?_,A.st⟩,rfl,H.fresh,hext⟩
 ·
  intro c J M e1 e2
  have e2':(h.objs.put h.next L).get c=some M:=e2
  by_cases hc:c=h.next
  ·
   subst hc
   rw [Tr.get_put_same (by omega)]at e2'
   cases e2'
   rw [X0M]at e1;cases e1
   exact hL _ hext
  ·
   rw [Tr.get_put_other hc]at e2'
   exact A.lp c J M e1 e2'
 ·
  intro c M e
  have e':(h.objs.put h.next L).get c=some M:=e
  by_cases hc:c=h.next
  · subst hc;exact Nat.lt_succ_self _
  · rw [Tr.get_put_other hc]at e';exact A.ld c M e'
 ·
  intro c c' J J' M M' e1 e2 l1 l2 eg
  have l1':(h.objs.put h.next L).get c=some M:=l1
  have l2':(h.objs.put h.next L).get c'=some M':=l2
  have lim:∀ x X N,x≠h.next→upd ρ h.next ⟨g,0,0,0,none⟩ x=some X→(h.objs.put h.next L).get x=some N→X.g<w.heap.size∧h.objs.get x=some N:=by
   intro x X N hx ex lx
   rw [X0U _ _ _ hx]at ex
   rw [Tr.get_put_other hx]at lx
   exact⟨X0V H ex,lx⟩
  by_cases hc:c=h.next
  ·
   by_cases hc':c'=h.next
   · rw [hc,hc']
   ·
    have:=(lim c' J' M' hc' e2 l2').1
    subst hc
    rw [X0M]at e1;cases e1
    simp at eg;omega
  ·
   by_cases hc':c'=h.next
   ·
    have:=(lim c J M hc e1 l1').1
    subst hc'
    rw [X0M]at e2;cases e2
    simp at eg;omega
   · exact A.li c c' J J' M M' e1 e2 (lim c J M hc e1 l1').2 (lim c' J' M' hc' e2 l2').2 eg
 ·
  intro c J M e1 e2
  have e2':(h.objs.put h.next L).get c=some M:=e2
  by_cases hc:c=h.next
  · subst hc;rw [X0M]at e1;cases e1;rfl
  · rw [Tr.get_put_other hc]at e2';exact A.lz c J M e1 e2'
def XCN (P:Program) (h:Heap) (t:TypeId) (x:Value):Option (Value×Heap) :=
 match P.underlying t,x with
 | some .string,.string s=>match h.newObj (.iter s 0)with
  | some (b,h')=>some (.pointer (some ⟨b,0,none⟩),h')
  | none=>none
 | _,_=>none
def XG2 (h:Heap) (it:Value) (isString:Bool):Option (Value×Heap) :=
 match isString,it with
 | true,.pointer (some ⟨b,0,none⟩)=>match h.objs.get b with
  | some (.iter s pos)=>match Nat.blt pos s.size with
   | true=>some (.tuple #[.bool true,.int .i64 pos,.int .i32 (Utf8.decode s pos).1],h.setObj b (.iter s (pos+(Utf8.decode s pos).2)))
   | false=>some (.tuple #[.bool false],h)
  | _=>none
 | _,_=>none
theorem X89 {P:Program} {ρ:Rho} {h h':Heap} {w:World} (H:X0f ρ h w) {t:TypeId} {x x' v:Value} (e:XCN P h t x=some (v,h')) (r:X0N ρ x x'):SM P ρ w (Instr.range t x') v h':=by
 unfold XCN at e
 split at e
 case h_2=>cases e
 rename_i s hu
 split at e
 case h_2=>cases e
 rename_i b h₁ hn
 cases e
 have:=r.eq_of_plain rfl;subst this
 have hnew:(w.alloc (.stringIter s 0)).heap[w.heap.size]?=some (.stringIter s 0):=World.alloc_heap_new w _
 obtain⟨H1,_,_,hext⟩:=H.newObj hn (g:=w.heap.size) (w':=w.alloc (.stringIter s 0)) (Nat.le_refl _) (by simp) (fun k hk=>by
  show(w.heap.push _)[k]?=_
  rw [Array.getElem?_push,if_neg (by omega)]) (fun _ _=>hnew)
 refine⟨.pointer (some ⟨w.heap.size,0,none⟩),_,w.alloc (.stringIter s 0),?_,?_,H1,⟨hext,fun c J ec=>?_,fun c J ec n=>?_⟩,Fr.alloc ρ w _⟩
 · simp only [Instr.range,Sem.run_bind,X00 hu,Result.andThen_ok,Sem.run_pure,run_newObj_alloc]
 · exact .ptr (I:=⟨w.heap.size,0,0,0,none⟩) (i:=0) (X0M _ _ _)
 ·
  by_cases hc:c=b
  · subst hc;rw [X0M]at ec;cases ec;exact .inl (Nat.le_refl _)
  · rw [X0U _ _ _ hc]at ec;exact .inr ⟨c,J,ec,rfl⟩
 ·
  by_cases hc:c=b
  · subst hc;rw [X0M]at ec;cases ec;exact absurd rfl n
  · rw [X0U _ _ _ hc]at ec;exact ec
theorem X98 {P:Program} {ρ:Rho} {h h':Heap} {w:World} (H:X0f ρ h w) {t:TypeId} {isString:Bool} {x x' v:Value} (e:XG2 h x isString=some (v,h')) (r:X0N ρ x x'):SM P ρ w (Instr.next x' isString t) v h':=by
 unfold XG2 at e
 split at e
 case h_2=>cases e
 rename_i b
 split at e
 case h_2=>cases e
 rename_i s pos hL
 obtain⟨I,hb,rfl⟩:=r.ptr_inv
 have hr:w.heap[I.g]?=some (.stringIter s pos):=H.lp b I _ hb hL
 have hlt:I.g<w.heap.size:=(Array.getElem?_eq_some_iff.1 hr).1
 have ho:I.o=0:=H.lz b I _ hb hL
 have hget:(getObj I.g).run P w=.ok (.stringIter s pos) w:=by simp [getObj,Sem.run,hr]
 split at e
 ·
  rename_i hlt2
  have hlt2:pos<s.size:=by simpa using hlt2
  cases e
  refine⟨.tuple #[.bool true,.int .i64 pos,.int .i32 (Utf8.decode s pos).1],ρ,w.putObj I.g (.stringIter s (pos+(Utf8.decode s pos).2)),?_,.tuple ?_,?_,.refl _ _,(Fr.refl ρ w).putObj (.inr ⟨b,I,hb,rfl⟩)⟩
  ·
   simp only [Instr.next,ho,Nat.add_zero,Sem.run_bind,hget,Result.andThen_ok]
   rw [if_pos hlt2]
   have hset:(setObj I.g (.stringIter s (pos+(Utf8.decode s pos).2))).run P w=.ok () (w.putObj I.g (.stringIter s (pos+(Utf8.decode s pos).2))):=by simp [setObj,Sem.run,hr,World.putObj]
   simp only [Sem.run_bind,hset,Result.andThen_ok]
   rfl
  · exact .cons (.one (.plain rfl)) (.cons (.one (.plain rfl)) (.cons (.one (.plain rfl)) .nil))
  · exact H.setObj hb hL rfl (World.putObj_heap_same hlt)
 ·
  rename_i hge
  have hge:¬ pos<s.size:=by
   intro hx
   have:Nat.blt pos s.size=true:=by simpa using hx
   rw [this]at hge;cases hge
  cases e
  refine⟨.tuple #[.bool false],ρ,w,?_,.tuple (.cons (.one (.plain rfl)) .nil),H,.refl _ _,.refl _ _⟩
  simp only [Instr.next,ho,Nat.add_zero,Sem.run_bind,hget,Result.andThen_ok]
  rw [if_neg hge]
  rfl
def aev (h:Heap) (tm:Tr Value):Operand→Option Value
 | .tmp t=>some ((tm.get t).getD undef)
 | .const v=>match X01 v with
  | true=>some v
  | false=>none
 | .global g=>match h.blks.get g with
  | some B=>match B.ro with
   | true=>some (.pointer (some ⟨g,0,none⟩))
   | false=>none
  | none=>none
 | .func f=>some (.func (.func f) #[] #[])
def X3s (h:Heap) (tm:Tr Value):List Operand→Option (List Value)
 | []=>some []
 | x::xs=>match aev h tm x,X3s h tm xs with
  | some v,some vs=>some (v::vs)
  | _,_=>none
theorem X08 {ρ:Rho} {h:Heap} {w:World} (H:X0f ρ h w) {tm:Tr Value} {a:Act} (T:X5Q ρ tm a.tmps) {x:Operand} {v:Value} (e:aev h tm x=some v):X0N ρ v (a.eval x):=by
 cases x with
 | tmp t=>simp only [aev,Option.some.injEq]at e;subst e;exact T t
 | const u =>
  simp only [aev]at e
  split at e
  · rename_i hp;cases e;exact .of_cellsPlain hp
  · cases e
 | global g =>
  simp only [aev]at e
  split at e
  ·
   rename_i B hB
   split at e
   ·
    rename_i hr
    cases e
    obtain⟨I,h1,h2,h3⟩:=H.glob g B hB hr
    have:=X0N.ptr (i:=0) h1
    rw [h2,h3]at this
    exact this
   · cases e
  · cases e
 | func f=>simp only [aev,Option.some.injEq]at e;subst e;exact .plain rfl
theorem X0w {ρ:Rho} {h:Heap} {w:World} (H:X0f ρ h w) {tm:Tr Value} {a:Act} (T:X5Q ρ tm a.tmps):∀ {xs:List Operand} {vs:List Value},X3s h tm xs=some vs→F2 (X0N ρ) vs (xs.map a.eval):=by
 intro xs
 induction xs with
 | nil=>intro vs e;simp only [X3s,Option.some.injEq]at e;subst e;exact .nil
 | cons x xs ih =>
  intro vs e
  simp only [X3s]at e
  split at e
  ·
   rename_i v us h1 h2
   cases e
   exact .cons (X08 H T h1) (ih h2)
  · cases e
def X4x (h:Heap) (tm:Tr Value):Option Operand→Option (Option Value)
 | none=>some none
 | some x=>match aev h tm x with
  | some v=>some (some v)
  | none=>none
theorem X4P {ρ:Rho} {h:Heap} {w:World} (H:X0f ρ h w) {tm:Tr Value} {a:Act} (T:X5Q ρ tm a.tmps) {x:Option Operand} {v:Option Value} (e:X4x h tm x=some v):XB0 ρ v (x.map a.eval):=by
 cases x with
 | none=>simp only [X4x,Option.some.injEq]at e;subst e;trivial
 | some x =>
  simp only [X4x]at e
  split at e
  · rename_i u hu;cases e;exact X08 H T hu
  · cases e
def X6V (h:Heap) (tm:Tr Value):List (Nat×Operand)→Option (List (Nat×Value))
 | []=>some []
 | (i,x)::xs=>match aev h tm x,X6V h tm xs with
  | some v,some vs=>some ((i,v)::vs)
  | _,_=>none
theorem X4Q {ρ:Rho} {h:Heap} {w:World} (H:X0f ρ h w) {tm:Tr Value} {a:Act} (T:X5Q ρ tm a.tmps):∀ {xs:List (Nat×Operand)} {vs:List (Nat×Value)},X6V h tm xs=some vs →
  F2 (fun p p'=>p.1=p'.1∧X0N ρ p.2 p'.2) vs (xs.map fun(i,x)=>(i,a.eval x)):=by
 intro xs
 induction xs with
 | nil=>intro vs e;simp only [X6V,Option.some.injEq]at e;subst e;exact .nil
 | cons p xs ih =>
  obtain⟨i,x⟩:=p
  intro vs e
  simp only [X6V]at e
  split at e
  ·
   rename_i v us h1 h2
   cases e
   exact .cons ⟨rfl,X08 H T h1⟩ (ih h2)
  · cases e
def X1p (h:Heap):Option Value→Option (Value×Heap)
 | some v=>some (v,h)
 | none=>none
def XE1 (v:Value):Bool:=X03 v || (match v with | .pointer (some ⟨_,_,none⟩)=>true | .func (.yield _) _ _=>true | _=>false)
def isFn:Fn→Bool
 | .func _=>true
 | _=>false
abbrev X0D:=Fn→List Value→Heap→Option (Value×Heap)
def X6W (P:Program) (t:TypeId) (parts:List (Nat×Value)):Option Value :=
 match X1o P t with
 | some z=>match P.underlying t with
  | some (.struct fields)=>match fields.toList.mapM (fun f=>(sz P f.type).map fun n=>(f.offset,n))with
   | some places=>match X3l (places.toArray[·]?) z.cells.toList parts with
    | some l=>some (.agg l.toArray)
    | none=>none
   | none=>none
  | some (.array _ elem)=>match sz P elem with
   | some size=>match X3l (fun i=>some (i*size,size)) z.cells.toList parts with
    | some l=>some (.agg l.toArray)
    | none=>none
   | none=>none
  | _=>none
 | none=>none
def XGL (P:Program) (argTypes:Array TypeId) (ty:TypeId) (x:Value):Option Value :=
 match argTypes[0]? with
 | some t=>match P.underlying t,x with
  | some (.slice _),.slice _ n _=>some (.int .i64 n)
  | some .string,.string s=>some (.int .i64 s.size)
  | some (.array n _),_=>some (.int .i64 n)
  | _,_=>none
 | none=>none
def X05 (P:Program) (call:X0D) (o:Oper) (tm:Tr Value) (h:Heap):Option (Value×Heap) :=
 match o.op with
 | .move x=>X1p h (aev h tm x)
 | .assign x=>X1p h (aev h tm x)
 | .pick c a b=>match aev h tm c with
  | some (.bool true)=>X1p h (aev h tm a)
  | some (.bool false)=>X1p h (aev h tm b)
  | _=>none
 | .alloc elem=>X6T P h elem
 | .box _ x=>match aev h tm x with
  | some v=>XEf h v
  | none=>none
 | .build t parts=>match X6V h tm parts.toList with
  | some ps=>X1p h (X6W P t ps)
  | none=>none
 | .buildSlice t len parts=>match X6V h tm parts.toList with
  | some ps=>X1D P h t len ps
  | none=>none
 | .load t a=>match aev h tm a with
  | some v=>X1p h (X44 P h t v)
  | none=>none
 | .store t a x=>match aev h tm a,aev h tm x with
  | some va,some vx=>match X7z P h t va vx with
   | some h'=>some (undef,h')
   | none=>none
  | _,_=>none
 | .nilCheck x=>match aev h tm x with
  | some (.pointer (some ⟨b,i,none⟩))=>some (.pointer (some ⟨b,i,none⟩),h)
  | some (.func (.func f) fi ca)=>some (.func (.func f) fi ca,h)
  | _=>none
 | .binOp op t x y _=>match aev h tm x,aev h tm y with
  | some vx,some vy=>X1p h (X2b P op t x y vx vy)
  | _,_=>none
 | .unOp op _ x=>match aev h tm x with
  | some v=>match X01 v with
   | true=>X1p h (X1B P (Op.unary op v))
   | false=>none
  | none=>none
 | .convert s d x=>match aev h tm x with
  | some v=>X46 P h s d v
  | none=>none
 | .makeInterface t x=>match aev h tm x with
  | some v=>match X01 v with
   | true=>X1p h (X1B P (Instr.makeInterface t v))
   | false=>none
  | none=>none
 | .makeFunc fn fi ca=>match X3s h tm fi.toList,X3s h tm ca.toList with
  | some a,some b=>match a.all XE1 && b.all XE1 && isFn fn with
   | true=>some (.func fn a.toArray b.toArray,h)
   | false=>none
  | _,_=>none
 | .makeSlice t l c=>match aev h tm l,aev h tm c with
  | some vl,some vc=>X1U P h t vl vc
  | _,_=>none
 | .slice t x lo hi mx=>match aev h tm x,X4x h tm lo,X4x h tm hi,X4x h tm mx with
  | some v,some l,some u,some m=>X1p h (X20 P h t v l u m)
  | _,_,_,_=>none
 | .fieldAddr t x f=>match aev h tm x with
  | some v=>X1p h (X0Z P t v f)
  | none=>none
 | .field t x f=>match aev h tm x with
  | some v=>X1p h (X6P P t v f)
  | none=>none
 | .indexAddr t x i=>match aev h tm x,aev h tm i with
  | some v,some j=>X1p h (X1m P t v j)
  | _,_=>none
 | .index t x i=>match aev h tm x,aev h tm i with
  | some v,some j=>X1p h (X7s P t v j)
  | _,_=>none
 | .range t x=>match aev h tm x with
  | some v=>XCN P h t v
  | none=>none
 | .next it isString=>match aev h tm it with
  | some v=>XG2 h v isString
  | none=>none
 | .extract x i=>match aev h tm x with
  | some v=>X1p h (X43 v i)
  | none=>none
 | .call c=>match c.callee with
  | .builtin .append=>match X3s h tm c.args.toList with
   | some [s,x]=>X5d P h c.argTypes s x
   | _=>none
  | .builtin .copy=>match X3s h tm c.args.toList with
   | some [s,x]=>XCM P h c.argTypes s x
   | _=>none
  | .builtin .clear=>match X3s h tm c.args.toList with
   | some [x]=>X86 P h c.argTypes x
   | _=>none
  | .builtin .cap=>match X3s h tm c.args.toList with
   | some [x]=>X1p h (aCap P c.argTypes x)
   | _=>none
  | .builtin .len=>match X3s h tm c.args.toList with
   | some [x]=>X1p h (XGL P c.argTypes o.type x)
   | _=>none
  | .builtin .min=>match X3s h tm c.args.toList with
   | some l=>match l.all X01 with
    | true=>X1p h (X1B P (Builtin.min_ c.argTypes o.type l.toArray))
    | false=>none
   | _=>none
  | .builtin .max=>match X3s h tm c.args.toList with
   | some l=>match l.all X01 with
    | true=>X1p h (X1B P (Builtin.max_ c.argTypes o.type l.toArray))
    | false=>none
   | _=>none
  | .value f=>match aev h tm f,X3s h tm c.args.toList with
   | some (.func (.func g) fi ca),some l=>match P.funcs[g]? with
    | some fn=>match fn.name == "runtime.NumGoroutine" with
     | true=>none
     | false=>match fn.body with
      | some _=>call (.func g) (fi.toList++l++ca.toList) h
      | none=>match(fi.toList++l++ca.toList).all X01 with
       | true=>match X6O P (callFunc g (fi.toList++l++ca.toList).toArray)with
        | some (.value v)=>match X01 v with
         | true=>some (v,h)
         | false=>none
        | _=>none
       | false=>none
    | none=>none
   | some (.func (.yield b) _ _),some l=>call (.yield b) l h
   | _,_=>none
  | _=>none
 | _=>none
def XE2 (tm:Tr Value) (t:Nat):Value:=Option.rec (motive:=fun _=>Value) undef (fun v=>v) (tm.get t)
def XCk (h:Heap) (tm:Tr Value) (x:Operand):Option Value:=Operand.rec (motive:=fun _=>Option Value) (fun t=>some (XE2 tm t)) (fun v=>Bool.rec (motive:=fun _=>Option Value) none (some v) (X01 v)) (fun g=>aev h tm (.global g)) (fun f=>some (.func (.func f) #[] #[])) x
def X4Z (h:Heap) (o:Option Value):Option (Value×Heap):=Option.rec (motive:=fun _=>Option (Value×Heap)) none (fun v=>some (v,h)) o
def X99 (o:Option Value) (f:Value→Option (Value×Heap)):Option (Value×Heap):=Option.rec (motive:=fun _=>Option (Value×Heap)) none f o
theorem XE3 (tm:Tr Value) (t:Nat):XE2 tm t=(tm.get t).getD undef:=by
 unfold XE2;cases tm.get t<;>rfl
theorem X2o (h:Heap) (tm:Tr Value) (x:Operand):XCk h tm x=aev h tm x:=by
 cases x with
 | tmp t=>show some (XE2 tm t)=_;rw [XE3];rfl
 | const v =>
  show(Bool.rec (motive:=fun _=>Option Value) none (some v) (X01 v):Option Value)=_
  simp only [aev]
  cases X01 v<;>rfl
 | global g=>rfl
 | func f=>rfl
theorem X2D (h:Heap) (o:Option Value):X4Z h o=X1p h o:=by cases o<;>rfl
def XCO (P:Program) (call:X0D) (o:Oper) (tm:Tr Value) (h:Heap):Option (Value×Heap) :=
 match o.op with
 | .move x=>X4Z h (XCk h tm x)
 | .assign x=>X4Z h (XCk h tm x)
 | .binOp op t x y _=>X99 (XCk h tm x) fun vx=>X99 (XCk h tm y) fun vy=>X4Z h (X2b P op t x y vx vy)
 | .load t a=>X99 (XCk h tm a) fun v=>X4Z h (X44 P h t v)
 | .fieldAddr t x f=>X99 (XCk h tm x) fun v=>X4Z h (X0Z P t v f)
 | .field t x f=>X99 (XCk h tm x) fun v=>X4Z h (X6P P t v f)
 | .indexAddr t x i=>X99 (XCk h tm x) fun v=>X99 (XCk h tm i) fun j=>X4Z h (X1m P t v j)
 | _=>X05 P call o tm h
theorem XA6 (P:Program) (call:X0D) (o:Oper) (tm:Tr Value) (h:Heap):XCO P call o tm h=X05 P call o tm h:=by
 unfold XCO
 split
 · rename_i x hx;unfold X05;rw [hx,X2D,X2o]
 · rename_i x hx;unfold X05;rw [hx,X2D,X2o]
 · rename_i op t x y _ hx;unfold X05;rw [hx,X2o,X2o];simp only [X2D];cases aev h tm x<;>cases aev h tm y<;>rfl
 · rename_i t x hx;unfold X05;rw [hx,X2o];simp only [X2D];cases aev h tm x<;>rfl
 · rename_i t x f hx;unfold X05;rw [hx,X2o];simp only [X2D];cases aev h tm x<;>rfl
 · rename_i t x f hx;unfold X05;rw [hx,X2o];simp only [X2D];cases aev h tm x<;>rfl
 · rename_i t x i hx;unfold X05;rw [hx,X2o,X2o];simp only [X2D];cases aev h tm x<;>cases aev h tm i<;>rfl
 · rfl
def X2K (ρ:Rho) (w:World) (v:Value) (h':Heap):Ending→World→Prop:=fun e w'=>∃ v' ρ',e=.returned v'∧X0N ρ' v v'∧X0f ρ' h' w'∧X2H ρ ρ' w∧Fr ρ w w'
def X2f (P:Program) (f:FuncId) (g:List Value→Heap→Option (Value×Heap)):Prop :=
 ∀ args h v h',g args h=some (v,h')→∀ ρ w (args':Array Value),X0f ρ h w→F2 (X0N ρ) args args'.toList→Calls P f args' w (X2K ρ w v h')
def X3G (r:Loop) (args:Array Value):Array Value:=(r.params.zip args).foldl (fun tmps (t,a)=>tmps.setIfInBounds t a) r.tmps
structure X5i (P:Program) (call:X0D):Prop where
 f:∀ f,X2f P f (call (.func f))
 y:∀ b args h v h',call (.yield b) args h=some (v,h')→∀ ρ w (args':Array Value) I,X0f ρ h w→ρ b=some I→F2 (X0N ρ) args args'.toList →
  ∃ r,w.heap[I.g]?=some (.loop r)∧args'.size=r.params.size∧∀ n,RoundIn Fence.wide n P I.g r.fn (X3G r args') r.assign r.body w (X2K ρ w v h')
end
end Go.Vai
namespace Go.Vai
noncomputable section
structure St where
 tm:Tr Value
 h:Heap
inductive X where
 | normal
 | exit (id:Nat)
 | ret
def X3U (nt:Nat) (tm:Tr Value) (dst:Option Nat) (v:Value):Tr Value :=
 match dst with
 | some d=>match Nat.blt d nt with
  | true=>tm.put d v
  | false=>tm
 | none=>tm
def X0b (ops:Array Oper) (tm:Tr Value) (j:Nat):Option Bool :=
 match(ops[j]?).bind (·.dst)with
 | some d=>match(tm.get d).getD undef with
  | .bool b=>some b
  | _=>none
 | none=>none
def X1d (P:Program) (call:X0D) (nt:Nat) (ops:Array Oper) (o:Oper) (st:St):Option St :=
 match Region.wanted o (X0b ops st.tm)with
 | true=>match X05 P call o st.tm st.h with
  | some (v,h')=>some ⟨X3U nt st.tm o.dst v,h'⟩
  | none=>none
 | false=>some ⟨X3U nt st.tm o.dst undef,st.h⟩
def X11 (P:Program) (call:X0D) (nt:Nat) (ops:Array Oper):List Oper→St→Option St
 | [],st=>some st
 | o::rest,st=>match X1d P call nt ops o st with
  | some st'=>X11 P call nt ops rest st'
  | none=>none
def X9A (nt:Nat) (tm:Tr Value) (dst:Option Nat) (v:Value):Tr Value:=Option.rec (motive:=fun _=>Tr Value) tm (fun d=>Bool.rec (motive:=fun _=>Tr Value) tm (tm.put d v) (Nat.blt d nt)) dst
theorem XA7 (nt:Nat) (tm:Tr Value) (dst:Option Nat) (v:Value):X9A nt tm dst v=X3U nt tm dst v:=by
 cases dst with
 | none=>rfl
 | some d =>
  show(Bool.rec (motive:=fun _=>Tr Value) tm (tm.put d v) (Nat.blt d nt):Tr Value)=_
  simp only [X3U]
  cases Nat.blt d nt<;>rfl
def X5j (o:Oper) (y:Nat→Option Bool):Bool:=Option.rec (motive:=fun _=>Bool) true (fun _=>Region.wanted o y) o.guard
theorem X6X (o:Oper) (y:Nat→Option Bool):X5j o y=Region.wanted o y:=by
 unfold X5j Region.wanted
 cases o.guard<;>rfl
def oneQ (P:Program) (call:X0D) (nt:Nat) (ops:Array Oper) (o:Oper) (st:St):Option St :=
 Bool.rec (motive:=fun _=>Option St) (some ⟨X9A nt st.tm o.dst undef,st.h⟩)
  (Option.rec (motive:=fun _=>Option St) none (fun r=>some ⟨X9A nt st.tm o.dst r.1,r.2⟩) (XCO P call o st.tm st.h)) (X5j o (X0b ops st.tm))
theorem XG3 (P:Program) (call:X0D) (nt:Nat) (ops:Array Oper) (o:Oper) (st:St):oneQ P call nt ops o st=X1d P call nt ops o st:=by
 unfold oneQ X1d
 rw [X6X]
 simp only [XA7,XA6]
 cases Region.wanted o (X0b ops st.tm)with
 | false=>rfl
 | true =>
  simp only
  cases X05 P call o st.tm st.h with
  | none=>rfl
  | some r=>rfl
def X7B (P:Program) (call:X0D) (nt:Nat) (ops:Array Oper) (l:List Oper):St→Option St :=
 List.rec (motive:=fun _=>St→Option St) (fun st=>some st) (fun o _ ih st=>Option.rec (motive:=fun _=>Option St) none ih (oneQ P call nt ops o st)) l
theorem X5k (P:Program) (call:X0D) (nt:Nat) (ops:Array Oper):∀ (l:List Oper) (st:St),X7B P call nt ops l st=X11 P call nt ops l st:=by
 intro l
 induction l with
 | nil=>intro st;rfl
 | cons o l ih =>
  intro st
  show(Option.rec (motive:=fun _=>Option St) none (X7B P call nt ops l) (oneQ P call nt ops o st):Option St)=_
  simp only [X11]
  rw [XG3]
  cases X1d P call nt ops o st with
  | none=>rfl
  | some s=>exact ih s
def X5l (P:Program) (st:St):ResultVar→Option Value
 | .tmp t=>some ((st.tm.get t).getD undef)
 | .cell a t=>X44 P st.h t ((st.tm.get a).getD undef)
def X2p (P:Program) (st:St):List ResultVar→Option (List Value)
 | []=>some []
 | r::rs=>match X5l P st r,X2p P st rs with
  | some v,some vs=>some (v::vs)
  | _,_=>none
def X3V (v:Value):Bool:=match v with
 | .tuple _=>false
 | _=>true
def X2q (P:Program) (fn:Func) (st:St):Option Value :=
 match X2p P st fn.results.toList with
 | some [v]=>some v
 | some vs=>match vs.all X3V with
  | true=>some (.tuple vs.toArray)
  | false=>none
 | none=>none
def Heap.setLoop (h:Heap) (b:Nat) (L:XCD):Heap:=h.setObj b (.loop L)
def Heap.getLoop (h:Heap) (b:Nat):Option XCD:=match h.objs.get b with
 | some (.loop L)=>some L
 | _=>none
theorem X3W {h:Heap} {b:Nat} {L:XCD} (e:h.getLoop b=some L):h.objs.get b=some (.loop L):=by
 unfold Heap.getLoop at e
 split at e
 · rename_i hL;cases e;exact hL
 · cases e
def XH9 (nt:Nat) (tm:Tr Value):List Tmp→List Value→Tr Value
 | t::ts,v::vs=>XH9 nt (X3U nt tm (some t) v) ts vs
 | _,_=>tm
def XCP (P:Program) (g:FuncId):Bool:=match P.funcs[g]? with
 | some fn=>match fn.name == "runtime.NumGoroutine" with
  | true=>false
  | false=>fn.body.isSome
 | none=>false
def X9B:LoopState→Bool
 | .ready=>true
 | _=>false
def XCQ:LoopState→Bool
 | .busy=>false
 | _=>true
def X.jump:X→Option Code
 | .normal=>none
 | .exit id=>some (.exit id)
 | .ret=>some .ret
def X.goesOn:X→Bool
 | .normal=>true
 | _=>false
def XHA:Option Code→Option X
 | none=>some .normal
 | some .ret=>some .ret
 | some (.exit id)=>some (.exit id)
 | _=>none
abbrev Ov:=FuncId→Option (List Value→Heap→Option (Value×Heap))
abbrev X3f:=Bool→Nat→Code→St→Option (X×St)
def X5m (ex:X3f) (b:Nat) (args:List Value) (h:Heap):Option (Value×Heap) :=
 match h.getLoop b with
 | some L=>match X9B L.state && Nat.beq args.length L.params.size with
  | true=>match ex true L.nt L.assign ⟨XH9 L.nt L.tm L.params.toList args,h⟩with
   | some (.normal,st)=>match st.h.getLoop b with
    | some L1=>match X9B L1.state with
     | true=>match ex true L.nt L.body ⟨st.tm,st.h.setLoop b { L1 with state:=.busy }⟩with
      | some (x,st')=>match st'.h.getLoop b with
       | some L2=>some (.bool x.goesOn,st'.h.setLoop b { L2 with state:=(match x.goesOn with | true=>.ready | false=>.done),pend:=x.jump })
       | none=>none
      | none=>none
     | false=>none
    | none=>none
   | _=>none
  | false=>none
 | none=>none
def X4y (P:Program) (ex:X3f) (f:FuncId) (args:List Value) (h:Heap):Option (Value×Heap) :=
 match P.funcs[f]? with
 | some fn=>match fn.body with
  | some c=>match Nat.blt (max fn.ntmps args.length) 1000000 with
   | true=>match ex false (max fn.ntmps args.length) c ⟨X2z 0 .leaf args,h⟩with
    | some (.normal,st)=>match X2q P fn st with
     | some v=>some (v,st.h)
     | none=>none
    | some (.ret,st)=>match X2q P fn st with
     | some v=>some (v,st.h)
     | none=>none
    | _=>none
   | false=>none
  | none=>none
 | none=>none
def known (ov:Ov) (f:FuncId) (args:List Value) (h:Heap):Option (Value×Heap):=match ov f with
 | some g=>g args h
 | none=>none
def X1b (P:Program) (ov:Ov) (ex:X3f):X0D:=fun fn args h =>
 match fn with
 | .func f=>match known ov f args h with
  | some r=>some r
  | none=>X4y P ex f args h
 | .yield b=>X5m ex b args h
 | _=>none
def X5n (P:Program) (call:X0D) (nt:Nat) (f:Operand) (ps:Array Tmp) (assign body:Code) (st:St):Option (X×St) :=
 match aev st.h st.tm f with
 | some (.func (.func g) fi ca)=>match fi.isEmpty && XCP P g with
  | true=>match st.h.newObj (.loop ⟨.ready,none,st.tm,nt,ps,assign,body⟩)with
   | some (b,h1)=>match call (.func g) (.func (.yield b) #[] #[]::ca.toList) h1 with
    | some (_,h2)=>match h2.getLoop b with
     | some L2=>match XCQ L2.state,XHA L2.pend with
      | true,some x=>some (x,⟨st.tm,h2.setLoop b { L2 with state:=.exhausted }⟩)
      | _,_=>none
     | none=>none
    | none=>none
   | none=>none
  | false=>none
 | _=>none
def X0B (P:Program) (ov:Ov) (dr:(X0D)→Nat→Array Oper→St→Option St) (ex:X3f):X3f:=fun rd nt c st =>
 match c with
 | .skip=>some (.normal,st)
 | .label _=>some (.normal,st)
 | .exit id=>some (.exit id,st)
 | .ret=>some (.ret,st)
 | .region _ ops false=>match X7B P (X1b P ov ex) nt ops ops.toList st with
  | some st'=>some (.normal,st')
  | none=>none
 | .region _ ops true=>match dr (X1b P ov ex) nt ops st with
  | some st'=>some (.normal,st')
  | none=>none
 | .seq a b=>match ex rd nt a st with
  | some (.normal,st')=>ex rd nt b st'
  | r=>r
 | .cond c a b=>match aev st.h st.tm c with
  | some (.bool true)=>ex rd nt a st
  | some (.bool false)=>ex rd nt b st
  | _=>none
 | .block id c=>match ex rd nt c st with
  | some (.exit j,st')=>match Nat.beq j id with
   | true=>some (.normal,st')
   | false=>some (.exit j,st')
  | r=>r
 | .loop c=>match ex rd nt c st with
  | some (.normal,st')=>ex rd nt (.loop c) st'
  | r=>r
 | .scope c=>ex rd nt c st
 | .rangeFunc f ps assign body=>match rd with
  | true=>none
  | false=>X5n P (X1b P ov ex) nt f ps assign body st
 | _=>none
def exec (P:Program) (ov:Ov) (dr:X0D→Nat→Array Oper→St→Option St):Nat→X3f
 | 0=>fun _ _ _ _=>none
 | k+1=>X0B P ov dr (exec P ov dr k)
end
end Go.Vai

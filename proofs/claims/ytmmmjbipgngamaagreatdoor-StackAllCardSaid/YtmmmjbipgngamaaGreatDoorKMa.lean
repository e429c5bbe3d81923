/-
  What is proved here: strings.ContainsFunc at the function that tells bad signs of a name, by the library's contract laid at this program, is an answer known otherwise; which names are found good. No conditions.
-/
import Derived.Test.YtmmmjbipgngamaaGreatDoorProg
import Derived.Test.YtmmmjbipgngamaaGreatDoorSKa
import Derived.Test.YtmmmjbipgngamaaGreatDoorVO
import Derived.KernelRfl
import Derived.Laws.RangeString
import Derived.Shelf.GgClosure.StringsIndexFuncTop
import Derived.WalkKit
set_option linter.unusedVariables false
set_option linter.unusedSimpArgs false
set_option maxRecDepth 100000
namespace Go.Proofs.YtmmmjbipgngamaaGreatDoor
open Go.Shelf Go.RowKit Go.Vai
def XEJ:Ren:=⟨fun x=>match x with
 | 15=>107
 | 17=>60
 | 20=>172
 | x=>x,fun x=>match x with
 | 23=>94
 | x=>x,fun x=>x⟩
theorem laysC:LaysGw.n17 Tryz.prog XEJ:={
 mixed:=by kernel_rfl
 f15:=by kernel_rfl
 f17:=by kernel_rfl
 f20:=by kernel_rfl
 t0:=by kernel_rfl
 a0:=fun _=>by kernel_rfl
 z0:=fun _=>by kernel_rfl
 v0:=fun _=>by kernel_rfl
 i0:=by kernel_rfl
 t3:=by kernel_rfl
 a3:=fun _=>by kernel_rfl
 z3:=fun _=>by kernel_rfl
 v3:=fun _=>by kernel_rfl
 i3:=by kernel_rfl
 t4:=by kernel_rfl
 a4:=fun _=>by kernel_rfl
 z4:=fun _=>by kernel_rfl
 v4:=fun _=>by kernel_rfl
 i4:=by kernel_rfl
 t9:=by kernel_rfl
 a9:=fun _=>by kernel_rfl
 z9:=fun _=>by kernel_rfl
 v9:=fun _=>by kernel_rfl
 i9:=by kernel_rfl
 t21:=by kernel_rfl
 a21:=fun _=>by kernel_rfl
 z21:=fun _=>by kernel_rfl
 v21:=fun _=>by kernel_rfl
 i21:=by kernel_rfl
 t23:=by kernel_rfl
 a23:=fun _=>by kernel_rfl
 z23:=fun _=>by kernel_rfl
 v23:=fun _=>by kernel_rfl
 i23:=by kernel_rfl
}
def X7M (n:Nat):Bool:=decide ((n<97∨122<n)∧(n<48∨57<n))
theorem XGN (w:World):PredAt Tryz.prog 59 #[] encR X7M w:=by
 intro W x hb
 show Calls Tryz.prog 59 #[encR x] W fun e w'=>e=.returned (.bool (X7M x))∧∃ q,w'=W.drewN q
 go_enter Tryz.func59,Tryz.ntmps59
 go_wp2
 all_goals
  go_ret
  refine⟨congrArg (fun b=>Ending.returned (.bool b)) ?_,0,rfl⟩
  unfold X7M
  rw [Bool.eq_iff_iff]
  simp only [Bool.and_eq_true,Bool.or_eq_true,decide_eq_true_eq,Bool.false_eq_true,false_iff,true_iff,eq_self]
  omega
noncomputable def X9O:List Value→Heap→Option (Value×Heap):=fun args h=>match args with
 | [.string s,.func (.func f) first cap]=>match Nat.beq f 59 && first.isEmpty && cap.isEmpty with
  | true=>some (.bool (decide (0≤Lib.idxFunc X7M true s)),h)
  | false=>none
 | _=>none
theorem XGO:X2f Tryz.prog 60 X9O:=by
 intro args h v h' e ρ w args' H r
 unfold X9O at e
 split at e
 case h_2=>cases e
 rename_i s f first cap
 split at e
 case h_2=>cases e
 rename_i hc
 simp only [Bool.and_eq_true]at hc
 cases e
 have hf:=Nat.eq_of_beq_eq_true hc.1.1
 have h1:first=#[]:=by have:=hc.1.2;simpa using this
 have h2:cap=#[]:=by have:=hc.2;simpa using this
 subst hf h1 h2
 have ha:args'=#[.string s,.func (.func 59) #[] #[]]:=by
  refine Array.toList_inj.1 ?_
  generalize args'.toList=l at r
  cases r with
  | cons r1 t=>cases t with
   | cons r2 t =>
    cases t
    rw [r1.eq_of_plain rfl,r2.eq_of_plain rfl]
 subst ha
 exact(Any.strings_ContainsFunc laysC 59 #[] (enters_of Tryz.func59 (by kernel_rfl) rfl) X7M s w (XGN w)).mono fun e' w' ⟨q1,q2⟩=>by subst q1;exact X1G H rfl q2
def X2x (n:Nat):Prop:=(97≤n∧n≤122)∨(48≤n∧n≤57)
theorem X7Q {n:Nat}:X7M n=false↔X2x n:=by
 unfold X7M X2x
 rw [decide_eq_false_iff_not];omega
theorem XGP {s:ByteArray} {pos:Nat} (h:pos<s.size):(s.get! (pos+0)).toNat=sB s pos:=by
 unfold sB
 rw [dif_pos h]
 have:s.get! (pos+0)=s[pos]:=by
  cases s with
  | mk d=>exact getElem!_pos d pos h
 rw [this]
theorem XB1 (s:ByteArray) (pos:Nat) (h:128≤(s.get! (pos+0)).toNat):128≤(Utf8.decode s pos).1:=by
 unfold Utf8.decode
 simp only []
 rw [if_neg (by omega)]
 split
 ·
  split
  · rename_i h1;exact h1
  · decide
 ·
  split
  ·
   split
   ·
    rename_i h1
    simp only [Bool.and_eq_true,decide_eq_true_eq]at h1
    have:=h1.1
    show 128≤_
    omega
   · decide
  ·
   split
   ·
    split
    ·
     rename_i h1
     simp only [Bool.and_eq_true,decide_eq_true_eq]at h1
     have:=h1.1
     show 128≤_
     omega
    · decide
   · decide
theorem XB2 (s:ByteArray) (pos:Nat) (h:pos<s.size) (ha:128≤sB s pos):X7M (Utf8.decode s pos).1=true:=by
 have:=XB1 s pos (by rw [XGP h];exact ha)
 unfold X7M
 exact decide_eq_true (by omega)
theorem XCv (s:ByteArray):∀ (f pos:Nat),s.size - pos≤f→(Lib.idxFuncFrom X7M true s f pos<0↔∀ j,pos≤j→j<s.size→X2x (sB s j)):=by
 intro f
 induction f with
 | zero =>
  intro pos hp
  exact⟨fun _ j a b=>by omega,fun _=>by unfold Lib.idxFuncFrom;decide⟩
 | succ f ih =>
  intro pos hp
  unfold Lib.idxFuncFrom
  by_cases h:pos<s.size
  ·
   rw [if_pos h]
   by_cases hb:X7M (Utf8.decode s pos).1=true
   ·
    rw [if_pos hb]
    refine⟨fun h0=>by omega,fun hg=>?_⟩
    have g:=hg pos (Nat.le_refl _) h
    have ha:sB s pos<128:=by unfold X2x at g;omega
    have e:sB s pos=(s[pos]'h).toNat:=by unfold sB;rw [dif_pos h]
    rw [decode_ascii s pos h (by rw [← e];exact ha)]at hb
    rw [← e]at hb
    rw [X7Q.2 g]at hb;cases hb
   ·
    rw [if_neg hb]
    have ha:sB s pos<128:=by
     rcases Nat.lt_or_ge (sB s pos) 128 with ha | ha
     · exact ha
     · exact absurd (XB2 s pos h ha) hb
    have e:sB s pos=(s[pos]'h).toNat:=by unfold sB;rw [dif_pos h]
    have hd:=decode_ascii s pos h (by rw [← e];exact ha)
    rw [hd]at hb ⊢
    rw [← e]at hb
    have hgood:X2x (sB s pos):=X7Q.1 (by simpa using hb)
    rw [ih (pos+1) (by omega)]
    refine⟨fun hg j a b=>?_,fun hg j a b=>hg j (by omega) b⟩
    by_cases ej:j=pos
    · subst ej;exact hgood
    · exact hg j (by omega) b
  ·
   rw [if_neg h]
   exact⟨fun _ j a b=>by omega,fun _=>by decide⟩
def XB3 (s:ByteArray):Prop:=1≤s.size∧s.size≤20∧∀ j,j<s.size→X2x (sB s j)
open Classical in
noncomputable def X1J (s:ByteArray):Bool:=decide (XB3 s)
open Classical in
theorem X32 {s:ByteArray}:X1J s=true↔XB3 s:=by
 unfold X1J
 exact decide_eq_true_iff
noncomputable def X7R (s:ByteArray):Bool:=decide (¬ s=ByteArray.empty) && (decide (((s.size:Nat):Int)≤20) && !decide (0≤Lib.idxFunc X7M true s))
theorem XAI {s:ByteArray}:s=ByteArray.empty↔s.size=0:=by
 constructor
 · intro h;rw [h];rfl
 ·
  intro h
  refine Go.WideShapes.bytes_inj ?_
  have:s.data.toList.length=0:=by rw [Array.length_toList];exact h
  rw [List.eq_nil_of_length_eq_zero this];rfl
theorem X6h (s:ByteArray):X7R s=X1J s:=by
 rw [Bool.eq_iff_iff,X32]
 unfold X7R XB3
 have h:=XCv s s.size 0 (by omega)
 simp only [Bool.and_eq_true,decide_eq_true_eq,Bool.not_eq_true',decide_eq_false_iff_not]
 have e:(0≤Lib.idxFunc X7M true s)↔¬ Lib.idxFuncFrom X7M true s s.size 0<0:=by
  show(0≤Lib.idxFuncFrom X7M true s s.size 0)↔_
  omega
 rw [e,h,XAI]
 constructor
 ·
  rintro⟨h1,h2,h3⟩
  exact⟨by omega,by omega,fun j hj=>Classical.not_not.1 h3 j (Nat.zero_le _) hj⟩
 ·
  rintro⟨h1,h2,h3⟩
  exact⟨by omega,by omega,fun hn=>hn fun j _ hj=>h3 j hj⟩
theorem X2S {s:ByteArray} {i:Nat} (hi:i<s.size) (h:¬ X2x (sB s i)):false=X1J s:=by
 cases e:X1J s with
 | false=>rfl
 | true=>exact absurd ((X32.1 e).2.2 i hi) h
theorem X1e {s:ByteArray} (h:¬ (1:Int)≤((s.size:Nat):Int)):false=X1J s:=by
 cases e:X1J s with
 | false=>rfl
 | true=>have:=(X32.1 e).1;omega
theorem X2T {s:ByteArray} (hg:∀ j,j<s.size→X2x (sB s j)) (h:(1:Int)≤((s.size:Nat):Int)):decide (((s.size:Nat):Int)≤20)=X1J s:=by
 rw [Bool.eq_iff_iff,X32,decide_eq_true_eq]
 exact⟨fun h2=>⟨by omega,by omega,hg⟩,fun h2=>by have:=h2.2.1;omega⟩
end Go.Proofs.YtmmmjbipgngamaaGreatDoor

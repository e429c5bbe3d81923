/-
  What is proved here: strings.ContainsFunc at the function that tells bad signs of a name, by the library's contract laid at this program, is an answer known otherwise; which names are found good. No conditions.
-/
import Derived.Test.YtmmmjbipgngamaaGreatDoorProg
import Derived.Test.YtmmmjbipgngamaaGreatDoorSKa
import Derived.Test.YtmmmjbipgngamaaGreatDoorVO
import Derived.KernelRfl
import Derived.Laws.RangeString
import Derived.Shelf.GgClosure.StringsIndexFuncTop
import Derived.WalkKit
set_option linter.unusedVariables false
set_option linter.unusedSimpArgs false
set_option maxRecDepth 100000
namespace Go.Proofs.YtmmmjbipgngamaaGreatDoor
open Go.Shelf Go.RowKit Go.Vai
def XBc:Ren:=⟨fun x=>match x with
 | 15=>107
 | 17=>60
 | 20=>172
 | x=>x,fun x=>match x with
 | 23=>94
 | x=>x,fun x=>x⟩
theorem laysC:LaysGw.n17 Tryz.prog XBc:={
 mixed:=by kernel_rfl
 f15:=by kernel_rfl
 f17:=by kernel_rfl
 f20:=by kernel_rfl
 t0:=by kernel_rfl
 a0:=fun _=>by kernel_rfl
 z0:=fun _=>by kernel_rfl
 v0:=fun _=>by kernel_rfl
 i0:=by kernel_rfl
 t3:=by kernel_rfl
 a3:=fun _=>by kernel_rfl
 z3:=fun _=>by kernel_rfl
 v3:=fun _=>by kernel_rfl
 i3:=by kernel_rfl
 t4:=by kernel_rfl
 a4:=fun _=>by kernel_rfl
 z4:=fun _=>by kernel_rfl
 v4:=fun _=>by kernel_rfl
 i4:=by kernel_rfl
 t9:=by kernel_rfl
 a9:=fun _=>by kernel_rfl
 z9:=fun _=>by kernel_rfl
 v9:=fun _=>by kernel_rfl
 i9:=by kernel_rfl
 t21:=by kernel_rfl
 a21:=fun _=>by kernel_rfl
 z21:=fun _=>by kernel_rfl
 v21:=fun _=>by kernel_rfl
 i21:=by kernel_rfl
 t23:=by kernel_rfl
 a23:=fun _=>by kernel_rfl
 z23:=fun _=>by kernel_rfl
 v23:=fun _=>by kernel_rfl
 i23:=by kernel_rfl
}
def X61 (n:Nat):Bool:=decide ((n<97∨122<n)∧(n<48∨57<n))
theorem XDK (w:World):PredAt Tryz.prog 59 #[] encR X61 w:=by
 intro W x hb
 show Calls Tryz.prog 59 #[encR x] W fun e w'=>e=.returned (.bool (X61 x))∧∃ q,w'=W.drewN q
 go_enter Tryz.func59,Tryz.ntmps59
 go_wp2
 all_goals
  go_ret
  refine⟨congrArg (fun b=>Ending.returned (.bool b)) ?_,0,rfl⟩
  unfold X61
  rw [Bool.eq_iff_iff]
  simp only [Bool.and_eq_true,Bool.or_eq_true,decide_eq_true_eq,Bool.false_eq_true,false_iff,true_iff,eq_self]
  omega
noncomputable def X7c:List Value→X04→Option (Value×X04):=fun args h=>match args with
 | [.string s,.func (.func f) first cap]=>match Nat.beq f 59 && first.isEmpty && cap.isEmpty with
  | true=>some (.bool (decide (0≤Lib.idxFunc X61 true s)),h)
  | false=>none
 | _=>none
theorem XDL:X24 Tryz.prog 60 X7c:=by
 intro args h v h' e ρ w args' H r
 unfold X7c at e
 split at e
 case h_2=>cases e
 rename_i s f first cap
 split at e
 case h_2=>cases e
 rename_i hc
 simp only [Bool.and_eq_true]at hc
 cases e
 have hf:=Nat.eq_of_beq_eq_true hc.1.1
 have h1:first=#[]:=by have:=hc.1.2;simpa using this
 have h2:cap=#[]:=by have:=hc.2;simpa using this
 subst hf h1 h2
 have ha:args'=#[.string s,.func (.func 59) #[] #[]]:=by
  refine Array.toList_inj.1 ?_
  generalize args'.toList=l at r
  cases r with
  | cons r1 t=>cases t with
   | cons r2 t =>
    cases t
    rw [r1.eq_of_plain rfl,r2.eq_of_plain rfl]
 subst ha
 exact(Any.strings_ContainsFunc laysC 59 #[] (enters_of Tryz.func59 (by kernel_rfl) rfl) X61 s w (XDK w)).mono fun e' w' ⟨q1,q2⟩=>by subst q1;exact X0y H rfl q2
def X2I (n:Nat):Prop:=(97≤n∧n≤122)∨(48≤n∧n≤57)
theorem X64 {n:Nat}:X61 n=false↔X2I n:=by
 unfold X61 X2I
 rw [decide_eq_false_iff_not];omega
theorem XDM {s:ByteArray} {pos:Nat} (h:pos<s.size):(s.get! (pos+0)).toNat=sB s pos:=by
 unfold sB
 rw [dif_pos h]
 have:s.get! (pos+0)=s[pos]:=by
  cases s with
  | mk d=>exact getElem!_pos d pos h
 rw [this]
theorem X8x (s:ByteArray) (pos:Nat) (h:128≤(s.get! (pos+0)).toNat):128≤(Utf8.decode s pos).1:=by
 unfold Utf8.decode
 simp only []
 rw [if_neg (by omega)]
 split
 ·
  split
  · rename_i h1;exact h1
  · decide
 ·
  split
  ·
   split
   ·
    rename_i h1
    simp only [Bool.and_eq_true,decide_eq_true_eq]at h1
    have:=h1.1
    show 128≤_
    omega
   · decide
  ·
   split
   ·
    split
    ·
     rename_i h1
     simp only [Bool.and_eq_true,decide_eq_true_eq]at h1
     have:=h1.1
     show 128≤_
     omega
    · decide
   · decide
theorem X8y (s:ByteArray) (pos:Nat) (h:pos<s.size) (ha:128≤sB s pos):X61 (Utf8.decode s pos).1=true:=by
 have:=X8x s pos (by rw [XDM h];exact ha)
 unfold X61
 exact decide_eq_true (by omega)
theorem XAO (s:ByteArray):∀ (f pos:Nat),s.size - pos≤f→(Lib.idxFuncFrom X61 true s f pos<0↔∀ j,pos≤j→j<s.size→X2I (sB s j)):=by
 intro f
 induction f with
 | zero =>
  intro pos hp
  exact⟨fun _ j a b=>by omega,fun _=>by unfold Lib.idxFuncFrom;decide⟩
 | succ f ih =>
  intro pos hp
  unfold Lib.idxFuncFrom
  by_cases h:pos<s.size
  ·
   rw [if_pos h]
   by_cases hb:X61 (Utf8.decode s pos).1=true
   ·
    rw [if_pos hb]
    refine⟨fun h0=>by omega,fun hg=>?_⟩
    have g:=hg pos (Nat.le_refl _) h
    have ha:sB s pos<128:=by unfold X2I at g;omega
    have e:sB s pos=(s[pos]'h).toNat:=by unfold sB;rw [dif_pos h]
    rw [decode_ascii s pos h (by rw [← e];exact ha)]at hb
    rw [← e]at hb
    rw [X64.2 g]at hb;cases hb
   ·
    rw [if_neg hb]
    have ha:sB s pos<128:=by
     rcases Nat.lt_or_ge (sB s pos) 128 with ha | ha
     · exact ha
     · exact absurd (X8y s pos h ha) hb
    have e:sB s pos=(s[pos]'h).toNat:=by unfold sB;rw [dif_pos h]
    have hd:=decode_ascii s pos h (by rw [← e];exact ha)
    rw [hd]at hb ⊢
    rw [← e]at hb
    have hgood:X2I (sB s pos):=X64.1 (by simpa using hb)
    rw [ih (pos+1) (by omega)]
    refine⟨fun hg j a b=>?_,fun hg j a b=>hg j (by omega) b⟩
    by_cases ej:j=pos
    · subst ej;exact hgood
    · exact hg j (by omega) b
  ·
   rw [if_neg h]
   exact⟨fun _ j a b=>by omega,fun _=>by decide⟩
def X8z (s:ByteArray):Prop:=1≤s.size∧s.size≤20∧∀ j,j<s.size→X2I (sB s j)
open Classical in
noncomputable def X3N (s:ByteArray):Bool:=decide (X8z s)
open Classical in
theorem X35 {s:ByteArray}:X3N s=true↔X8z s:=by
 unfold X3N
 exact decide_eq_true_iff
noncomputable def X65 (s:ByteArray):Bool:=decide (¬ s=ByteArray.empty) && (decide (((s.size:Nat):Int)≤20) && !decide (0≤Lib.idxFunc X61 true s))
theorem X8K {s:ByteArray}:s=ByteArray.empty↔s.size=0:=by
 constructor
 · intro h;rw [h];rfl
 ·
  intro h
  refine Go.WideShapes.bytes_inj ?_
  have:s.data.toList.length=0:=by rw [Array.length_toList];exact h
  rw [List.eq_nil_of_length_eq_zero this];rfl
theorem X5X (s:ByteArray):X65 s=X3N s:=by
 rw [Bool.eq_iff_iff,X35]
 unfold X65 X8z
 have h:=XAO s s.size 0 (by omega)
 simp only [Bool.and_eq_true,decide_eq_true_eq,Bool.not_eq_true',decide_eq_false_iff_not]
 have e:(0≤Lib.idxFunc X61 true s)↔¬ Lib.idxFuncFrom X61 true s s.size 0<0:=by
  show(0≤Lib.idxFuncFrom X61 true s s.size 0)↔_
  omega
 rw [e,h,X8K]
 constructor
 ·
  rintro⟨h1,h2,h3⟩
  exact⟨by omega,by omega,fun j hj=>Classical.not_not.1 h3 j (Nat.zero_le _) hj⟩
 ·
  rintro⟨h1,h2,h3⟩
  exact⟨by omega,by omega,fun hn=>hn fun j _ hj=>h3 j hj⟩
theorem X1w {s:ByteArray} {i:Nat} (hi:i<s.size) (h:¬ X2I (sB s i)):false=X3N s:=by
 cases e:X3N s with
 | false=>rfl
 | true=>exact absurd ((X35.1 e).2.2 i hi) h
theorem X1J {s:ByteArray} (h:¬ (1:Int)≤((s.size:Nat):Int)):false=X3N s:=by
 cases e:X3N s with
 | false=>rfl
 | true=>have:=(X35.1 e).1;omega
theorem X1x {s:ByteArray} (hg:∀ j,j<s.size→X2I (sB s j)) (h:(1:Int)≤((s.size:Nat):Int)):decide (((s.size:Nat):Int)≤20)=X3N s:=by
 rw [Bool.eq_iff_iff,X35,decide_eq_true_eq]
 exact⟨fun h2=>⟨by omega,by omega,hg⟩,fun h2=>by have:=h2.2.1;omega⟩
end Go.Proofs.YtmmmjbipgngamaaGreatDoor

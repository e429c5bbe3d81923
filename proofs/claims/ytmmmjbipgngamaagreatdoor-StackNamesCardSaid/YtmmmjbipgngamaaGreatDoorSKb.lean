/-
  What is proved here: what is known of calls of the stack's statements: begun, strconv.Itoa, base.Put, rotulusref22.Put, rotulusref22.Get. No conditions.
-/
import Derived.Test.YtmmmjbipgngamaaGreatDoorSKa
import Derived.Test.YtmmmjbipgngamaaGreatDoorVY
import Derived.Test.YtmmmjbipgngamaaGreatDoorKMa
import Derived.Test.YtmmmjbipgngamaaGreatDoorPureBase0
import Derived.KernelRfl
set_option linter.unusedVariables false
set_option linter.unusedSimpArgs false
namespace Go.Proofs.YtmmmjbipgngamaaGreatDoor
open Go.Vai Go.RowKit Go.Proofs.YtmmmjbipgngamaaGreatDoor.Pure
noncomputable section
noncomputable abbrev P:=Tryz.prog
def b64 (s:ByteArray):ByteArray:=strOfNums (enc (rest s 0))
def X8b:List Value→X04→Option (Value×X04):=fun args h=>match args with
 | [.string s]=>match decide (s.size≤1000)with
  | true=>some (.string (b64 s),h)
  | false=>none
 | _=>none
def XCo:List Value→X04→Option (Value×X04):=fun args h=>match args with
 | [.string s]=>match decide (s.size≤1000),PBase.rotulusref22_Get.f 300000 s with
  | true,some (x,b)=>some (.tuple #[.string x,.bool b],h)
  | _,_=>none
 | _=>none
theorem X7J {ρ:Rho} {s:ByteArray} {args':Array Value} (r:F2 (X0F ρ) [.string s] args'.toList):args'=#[.string s]:=by
 refine Array.toList_inj.1 ?_
 generalize args'.toList=l at r
 cases r with
 | cons r t =>
  cases t
  rw [r.eq_of_plain rfl]
theorem put_k:X24 Tryz.prog 42 X8b:=by
 intro args h v h' e ρ w args' H r
 match args,e,r with
 | [.string s],e,r =>
  simp only [X8b]at e
  split at e
  ·
   rename_i hs
   cases e
   have ha:=X7J r
   subst ha
   exact(PBase.base_Put.calls 10001 s _ w (put_f (of_decide_eq_true hs) (Nat.le_refl _))).mono fun e' w' ⟨q1,q2⟩=>by subst q1;exact X0y H rfl q2
  · cases e
theorem XDp:X24 Tryz.prog 44 X8b:=by
 intro args h v h' e ρ w args' H r
 match args,e,r with
 | [.string s],e,r =>
  simp only [X8b]at e
  split at e
  ·
   rename_i hs
   cases e
   have ha:=X7J r
   subst ha
   exact(PBase.rotulusref22_Put.calls 100000 s _ w (put_rf (of_decide_eq_true hs) (Nat.le_refl _))).mono fun e' w' ⟨q1,q2⟩=>by subst q1;exact X0y H rfl q2
  · cases e
theorem XB5 {ρ:Rho} {h:X04} {w w':World} {x:ByteArray} {b:Bool} (H:X0Y ρ h w) (hb:Below w.heap.size w w'):X1s ρ w (.tuple #[.string x,.bool b]) h (.returned (.tuple #[.string x,.bool b])) w':=by
 obtain⟨v,ρ',e1,_,e3,e4,e5⟩:=X0y (v:=.bool b) H rfl hb
 exact⟨_,ρ',rfl,.tuple (.cons (.one (.plain rfl)) (.cons (.one (.plain rfl)) .nil)),e3,e4,e5⟩
theorem XDq:X24 Tryz.prog 22 XCo:=by
 intro args h v h' e ρ w args' H r
 match args,e,r with
 | [.string s],e,r =>
  simp only [XCo]at e
  split at e
  ·
   rename_i x b hs hg
   cases e
   have ha:=X7J r
   subst ha
   exact(PBase.rotulusref22_Get.calls 300000 s x b w hg).mono fun e' w' ⟨q1,q2⟩=>by subst q1;exact XB5 H q2
  · cases e
def ov:Ov:=fun f=>match Nat.beq f 33 with
 | true=>some X6x
 | false=>match Nat.beq f 42 with
  | true=>some X8b
  | false=>match Nat.beq f 44 with
   | true=>some X8b
   | false=>match Nat.beq f 22 with
    | true=>some XCo
    | false=>match Nat.beq f 60 with
     | true=>some X7c
     | false=>ovs [8] f
theorem XDr:X8p P ov:=by
 intro f g e
 unfold ov at e
 split at e
 ·
  rename_i hf
  have:=Nat.eq_of_beq_eq_true hf
  subst this;cases e;exact itoaK
 split at e
 ·
  rename_i hf
  have:=Nat.eq_of_beq_eq_true hf
  subst this;cases e;exact put_k
 split at e
 ·
  rename_i hf
  have:=Nat.eq_of_beq_eq_true hf
  subst this;cases e;exact XDp
 split at e
 ·
  rename_i hf
  have:=Nat.eq_of_beq_eq_true hf
  subst this;cases e;exact XDq
 split at e
 ·
  rename_i hf
  have:=Nat.eq_of_beq_eq_true hf
  subst this;cases e;exact XDL
 · exact X8H (l:=[8]) (fun f hf=>by simp only [List.mem_singleton]at hf;subst hf;exact said8) f g e
theorem XB6:X2u P ov 8 [] (.bool true):=FnD.knownF (fn:=XAH) (vs:=[]) rfl (fun M g a ws h=>by cases h;rfl) (fun h=>rfl) (fun M g a=>CR.bool)
theorem XCp (s:ByteArray):X2u P ov 60 [.str s,.fn 59] (.bool (decide (0≤Lib.idxFunc X61 true s))):=FnD.knownF (fn:=X7c) (vs:=[.string s,.func (.func 59) #[] #[]]) rfl (fun M g a ws h=>by
 cases h with
 | cons h1 t=>cases t with
  | cons h2 t=>cases t;cases h1;cases h2;rfl) (fun h=>rfl) (fun M g a=>CR.bool)
theorem X9p (n:Nat) (hn:n≤1000000):X2u P ov 33 [.int .i64 (n:Int)] (.str (X2l n)):=FnD.knownF (fn:=X6x) (vs:=[.int .i64 (n:Int)]) rfl XDo (fun h=>by simp only [X6x];rw [decide_eq_true (by omega)];rfl) (fun M g a=>CR.str)
end
end Go.Proofs.YtmmmjbipgngamaaGreatDoor

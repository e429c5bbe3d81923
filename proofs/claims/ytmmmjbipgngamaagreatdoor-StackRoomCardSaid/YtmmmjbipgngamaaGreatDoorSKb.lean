/-
  What is proved here: what is known of calls of the stack's statements: begun, strconv.Itoa, base.Put, rotulusref22.Put, rotulusref22.Get. No conditions.
-/
import Derived.Test.YtmmmjbipgngamaaGreatDoorSKa
import Derived.Test.YtmmmjbipgngamaaGreatDoorVY
import Derived.Test.YtmmmjbipgngamaaGreatDoorPureBase0
import Derived.KernelRfl
set_option linter.unusedVariables false
set_option linter.unusedSimpArgs false
namespace Go.Proofs.YtmmmjbipgngamaaGreatDoor
open Go.Vai Go.RowKit Go.Proofs.YtmmmjbipgngamaaGreatDoor.Pure
noncomputable section
noncomputable abbrev P:=Tryz.prog
def b64 (s:ByteArray):ByteArray:=strOfNums (enc (rest s 0))
def X8E:List Value→X04→Option (Value×X04):=fun args h=>match args with
 | [.string s]=>match decide (s.size≤1000)with
  | true=>some (.string (b64 s),h)
  | false=>none
 | _=>none
def XCO:List Value→X04→Option (Value×X04):=fun args h=>match args with
 | [.string s]=>match decide (s.size≤1000),PBase.rotulusref22_Get.f 300000 s with
  | true,some (x,b)=>some (.tuple #[.string x,.bool b],h)
  | _,_=>none
 | _=>none
theorem X72 {ρ:Rho} {s:ByteArray} {args':Array Value} (r:F2 (X0F ρ) [.string s] args'.toList):args'=#[.string s]:=by
 refine Array.toList_inj.1 ?_
 generalize args'.toList=l at r
 cases r with
 | cons r t =>
  cases t
  rw [r.eq_of_plain rfl]
theorem put_k:X2D Tryz.prog 42 X8E:=by
 intro args h v h' e ρ w args' H r
 match args,e,r with
 | [.string s],e,r =>
  simp only [X8E]at e
  split at e
  ·
   rename_i hs
   cases e
   have ha:=X72 r
   subst ha
   exact(PBase.base_Put.calls 10001 s _ w (put_f (of_decide_eq_true hs) (Nat.le_refl _))).mono fun e' w' ⟨q1,q2⟩=>by subst q1;exact X18 H rfl q2
  · cases e
theorem XDK:X2D Tryz.prog 44 X8E:=by
 intro args h v h' e ρ w args' H r
 match args,e,r with
 | [.string s],e,r =>
  simp only [X8E]at e
  split at e
  ·
   rename_i hs
   cases e
   have ha:=X72 r
   subst ha
   exact(PBase.rotulusref22_Put.calls 100000 s _ w (put_rf (of_decide_eq_true hs) (Nat.le_refl _))).mono fun e' w' ⟨q1,q2⟩=>by subst q1;exact X18 H rfl q2
  · cases e
theorem XAd {ρ:Rho} {h:X04} {w w':World} {x:ByteArray} {b:Bool} (H:X0V ρ h w) (hb:Below w.heap.size w w'):X1o ρ w (.tuple #[.string x,.bool b]) h (.returned (.tuple #[.string x,.bool b])) w':=by
 obtain⟨v,ρ',e1,_,e3,e4,e5⟩:=X18 (v:=.bool b) H rfl hb
 exact⟨_,ρ',rfl,.tuple (.cons (.one (.plain rfl)) (.cons (.one (.plain rfl)) .nil)),e3,e4,e5⟩
theorem XDL:X2D Tryz.prog 22 XCO:=by
 intro args h v h' e ρ w args' H r
 match args,e,r with
 | [.string s],e,r =>
  simp only [XCO]at e
  split at e
  ·
   rename_i x b hs hg
   cases e
   have ha:=X72 r
   subst ha
   exact(PBase.rotulusref22_Get.calls 300000 s x b w hg).mono fun e' w' ⟨q1,q2⟩=>by subst q1;exact XAd H q2
  · cases e
def ov:Ov:=fun f=>match Nat.beq f 33 with
 | true=>some X6i
 | false=>match Nat.beq f 42 with
  | true=>some X8E
  | false=>match Nat.beq f 44 with
   | true=>some X8E
   | false=>match Nat.beq f 22 with
    | true=>some XCO
    | false=>ovs [8] f
theorem XDM:X8R P ov:=by
 intro f g e
 unfold ov at e
 split at e
 ·
  rename_i hf
  have:=Nat.eq_of_beq_eq_true hf
  subst this;cases e;exact itoaK
 split at e
 ·
  rename_i hf
  have:=Nat.eq_of_beq_eq_true hf
  subst this;cases e;exact put_k
 split at e
 ·
  rename_i hf
  have:=Nat.eq_of_beq_eq_true hf
  subst this;cases e;exact XDK
 split at e
 ·
  rename_i hf
  have:=Nat.eq_of_beq_eq_true hf
  subst this;cases e;exact XDL
 · exact X7w (l:=[8]) (fun f hf=>by simp only [List.mem_singleton]at hf;subst hf;exact said8) f g e
theorem XAe:X4n P ov 8 [] (.bool true):=FnD.knownF (fn:=X9r) (vs:=[]) rfl (fun M g a ws h=>by cases h;rfl) (fun h=>rfl) (fun M g a=>CR.bool)
theorem X9R (n:Nat) (hn:n≤1000000):X4n P ov 33 [.int .i64 (n:Int)] (.str (X2K n)):=FnD.knownF (fn:=X6i) (vs:=[.int .i64 (n:Int)]) rfl XDJ (fun h=>by simp only [X6i];rw [decide_eq_true (by omega)];rfl) (fun M g a=>CR.str)
end
end Go.Proofs.YtmmmjbipgngamaaGreatDoor

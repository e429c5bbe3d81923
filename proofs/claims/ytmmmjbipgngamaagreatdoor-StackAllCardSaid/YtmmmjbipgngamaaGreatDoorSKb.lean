/-
  What is proved here: what is known of calls of the stack's statements: begun, strconv.Itoa, base.Put, rotulusref22.Put, rotulusref22.Get. No conditions.
-/
import Derived.Test.YtmmmjbipgngamaaGreatDoorSKa
import Derived.Test.YtmmmjbipgngamaaGreatDoorVY
import Derived.Test.YtmmmjbipgngamaaGreatDoorKMa
import Derived.Test.YtmmmjbipgngamaaGreatDoorPureBase0
import Derived.KernelRfl
set_option linter.unusedVariables false
set_option linter.unusedSimpArgs false
namespace Go.Proofs.YtmmmjbipgngamaaGreatDoor
open Go.Vai Go.RowKit Go.Proofs.YtmmmjbipgngamaaGreatDoor.Pure
noncomputable section
noncomputable abbrev P:=Tryz.prog
def b64 (s:ByteArray):ByteArray:=strOfNums (enc (rest s 0))
def X60:List Value→Heap→Option (Value×Heap):=fun args h=>match args with
 | [.string s]=>match decide (s.size≤1000)with
  | true=>some (.string (b64 s),h)
  | false=>none
 | _=>none
def XFm:List Value→Heap→Option (Value×Heap):=fun args h=>match args with
 | [.string s]=>match decide (s.size≤1000),PBase.rotulusref22_Get.f 300000 s with
  | true,some (x,b)=>some (.tuple #[.string x,.bool b],h)
  | _,_=>none
 | _=>none
theorem X8z {ρ:Rho} {s:ByteArray} {args':Array Value} (r:F2 (X0N ρ) [.string s] args'.toList):args'=#[.string s]:=by
 refine Array.toList_inj.1 ?_
 generalize args'.toList=l at r
 cases r with
 | cons r t =>
  cases t
  rw [r.eq_of_plain rfl]
theorem put_k:X2f Tryz.prog 42 X60:=by
 intro args h v h' e ρ w args' H r
 match args,e,r with
 | [.string s],e,r =>
  simp only [X60]at e
  split at e
  ·
   rename_i hs
   cases e
   have ha:=X8z r
   subst ha
   exact(PBase.base_Put.calls 10001 s _ w (put_f (of_decide_eq_true hs) (Nat.le_refl _))).mono fun e' w' ⟨q1,q2⟩=>by subst q1;exact X1G H rfl q2
  · cases e
theorem XGy:X2f Tryz.prog 44 X60:=by
 intro args h v h' e ρ w args' H r
 match args,e,r with
 | [.string s],e,r =>
  simp only [X60]at e
  split at e
  ·
   rename_i hs
   cases e
   have ha:=X8z r
   subst ha
   exact(PBase.rotulusref22_Put.calls 100000 s _ w (put_rf (of_decide_eq_true hs) (Nat.le_refl _))).mono fun e' w' ⟨q1,q2⟩=>by subst q1;exact X1G H rfl q2
  · cases e
theorem XDe {ρ:Rho} {h:Heap} {w w':World} {x:ByteArray} {b:Bool} (H:X0f ρ h w) (hb:Below w.heap.size w w'):X2K ρ w (.tuple #[.string x,.bool b]) h (.returned (.tuple #[.string x,.bool b])) w':=by
 obtain⟨v,ρ',e1,_,e3,e4,e5⟩:=X1G (v:=.bool b) H rfl hb
 exact⟨_,ρ',rfl,.tuple (.cons (.one (.plain rfl)) (.cons (.one (.plain rfl)) .nil)),e3,e4,e5⟩
theorem XGz:X2f Tryz.prog 22 XFm:=by
 intro args h v h' e ρ w args' H r
 match args,e,r with
 | [.string s],e,r =>
  simp only [XFm]at e
  split at e
  ·
   rename_i x b hs hg
   cases e
   have ha:=X8z r
   subst ha
   exact(PBase.rotulusref22_Get.calls 300000 s x b w hg).mono fun e' w' ⟨q1,q2⟩=>by subst q1;exact XDe H q2
  · cases e
def ov:Ov:=fun f=>match Nat.beq f 33 with
 | true=>some X8U
 | false=>match Nat.beq f 42 with
  | true=>some X60
  | false=>match Nat.beq f 44 with
   | true=>some X60
   | false=>match Nat.beq f 22 with
    | true=>some XFm
    | false=>match Nat.beq f 60 with
     | true=>some X9O
     | false=>ovs [8] f
theorem XH0:XAq P ov:=by
 intro f g e
 unfold ov at e
 split at e
 ·
  rename_i hf
  have:=Nat.eq_of_beq_eq_true hf
  subst this;cases e;exact itoaK
 split at e
 ·
  rename_i hf
  have:=Nat.eq_of_beq_eq_true hf
  subst this;cases e;exact put_k
 split at e
 ·
  rename_i hf
  have:=Nat.eq_of_beq_eq_true hf
  subst this;cases e;exact XGy
 split at e
 ·
  rename_i hf
  have:=Nat.eq_of_beq_eq_true hf
  subst this;cases e;exact XGz
 split at e
 ·
  rename_i hf
  have:=Nat.eq_of_beq_eq_true hf
  subst this;cases e;exact XGO
 · exact XAF (l:=[8]) (fun f hf=>by simp only [List.mem_singleton]at hf;subst hf;exact said8) f g e
theorem XDf:X2G P ov 8 [] (.bool true):=FnD.knownF (fn:=XCg) (vs:=[]) rfl (fun M g a ws h=>by cases h;rfl) (fun h=>rfl) (fun M g a=>CR.bool)
theorem XFn (s:ByteArray):X2G P ov 60 [.str s,.fn 59] (.bool (decide (0≤Lib.idxFunc X7M true s))):=FnD.knownF (fn:=X9O) (vs:=[.string s,.func (.func 59) #[] #[]]) rfl (fun M g a ws h=>by
 cases h with
 | cons h1 t=>cases t with
  | cons h2 t=>cases t;cases h1;cases h2;rfl) (fun h=>rfl) (fun M g a=>CR.bool)
theorem XBv (n:Nat) (hn:n≤1000000):X2G P ov 33 [.int .i64 (n:Int)] (.str (X3k n)):=FnD.knownF (fn:=X8U) (vs:=[.int .i64 (n:Int)]) rfl XGw (fun h=>by simp only [X8U];rw [decide_eq_true (by omega)];rfl) (fun M g a=>CR.str)
theorem XEZ (s:ByteArray) (hs:s.size≤1000):X2G P ov 42 [.str s] (.str (b64 s)):=FnD.knownF (fn:=X60) (vs:=[.string s]) rfl XEY (fun h=>by simp only [X60];rw [decide_eq_true hs]) (fun M g a=>CR.str)
theorem XFo (s:ByteArray) (hs:s.size≤1000):X2G P ov 44 [.str s] (.str (b64 s)):=FnD.knownF (fn:=X60) (vs:=[.string s]) rfl XEY (fun h=>by simp only [X60];rw [decide_eq_true hs]) (fun M g a=>CR.str)
theorem XDg (s:ByteArray):rest (b64 s) 0=enc (rest s 0):=rest_str fun x hx=>by
 have:=enc_range _ (rest s 0) (Nat.le_refl _) x hx
 omega
theorem X9r (s:ByteArray):(b64 s).size=(s.size+2) / 3*4:=by
 have h:=congrArg List.length (XDg s)
 rw [(enc_len _ (rest s 0) (Nat.le_refl _)).1,rest_length,rest_length,Nat.sub_zero,Nat.sub_zero]at h
 exact h
end
end Go.Proofs.YtmmmjbipgngamaaGreatDoor

/-
  What is proved here: what is known of calls of the stack's statements: begun, strconv.Itoa, base.Put, rotulusref22.Put, rotulusref22.Get. No conditions.
-/
import Derived.Test.YtmmmjbipgngamaaGreatDoorSKa
import Derived.Test.YtmmmjbipgngamaaGreatDoorVY
import Derived.Test.YtmmmjbipgngamaaGreatDoorPureBase0
import Derived.KernelRfl
set_option linter.unusedVariables false
set_option linter.unusedSimpArgs false
namespace Go.Proofs.YtmmmjbipgngamaaGreatDoor
open Go.Vai Go.RowKit Go.Proofs.YtmmmjbipgngamaaGreatDoor.Pure
noncomputable section
noncomputable abbrev P:=Tryz.prog
def b64 (s:ByteArray):ByteArray:=strOfNums (enc (rest s 0))
def X67:List Value→X04→Option (Value×X04):=fun args h=>match args with
 | [.string s]=>match decide (s.size≤1000)with
  | true=>some (.string (b64 s),h)
  | false=>none
 | _=>none
def X9R:List Value→X04→Option (Value×X04):=fun args h=>match args with
 | [.string s]=>match decide (s.size≤1000),PBase.rotulusref22_Get.f 300000 s with
  | true,some (x,b)=>some (.tuple #[.string x,.bool b],h)
  | _,_=>none
 | _=>none
theorem X77 {ρ:Rho} {s:ByteArray} {args':Array Value} (r:F2 (X0F ρ) [.string s] args'.toList):args'=#[.string s]:=by
 refine Array.toList_inj.1 ?_
 generalize args'.toList=l at r
 cases r with
 | cons r t =>
  cases t
  rw [r.eq_of_plain rfl]
theorem put_k:X2A Tryz.prog 42 X67:=by
 intro args h v h' e ρ w args' H r
 match args,e,r with
 | [.string s],e,r =>
  simp only [X67]at e
  split at e
  ·
   rename_i hs
   cases e
   have ha:=X77 r
   subst ha
   exact(PBase.base_Put.calls 10001 s _ w (put_f (of_decide_eq_true hs) (Nat.le_refl _))).mono fun e' w' ⟨q1,q2⟩=>by subst q1;exact X17 H rfl q2
  · cases e
theorem XDP:X2A Tryz.prog 44 X67:=by
 intro args h v h' e ρ w args' H r
 match args,e,r with
 | [.string s],e,r =>
  simp only [X67]at e
  split at e
  ·
   rename_i hs
   cases e
   have ha:=X77 r
   subst ha
   exact(PBase.rotulusref22_Put.calls 100000 s _ w (put_rf (of_decide_eq_true hs) (Nat.le_refl _))).mono fun e' w' ⟨q1,q2⟩=>by subst q1;exact X17 H rfl q2
  · cases e
theorem XAb {ρ:Rho} {h:X04} {w w':World} {x:ByteArray} {b:Bool} (H:X0X ρ h w) (hb:Below w.heap.size w w'):X1l ρ w (.tuple #[.string x,.bool b]) h (.returned (.tuple #[.string x,.bool b])) w':=by
 obtain⟨v,ρ',e1,_,e3,e4,e5⟩:=X17 (v:=.bool b) H rfl hb
 exact⟨_,ρ',rfl,.tuple (.cons (.one (.plain rfl)) (.cons (.one (.plain rfl)) .nil)),e3,e4,e5⟩
theorem XDQ:X2A Tryz.prog 22 X9R:=by
 intro args h v h' e ρ w args' H r
 match args,e,r with
 | [.string s],e,r =>
  simp only [X9R]at e
  split at e
  ·
   rename_i x b hs hg
   cases e
   have ha:=X77 r
   subst ha
   exact(PBase.rotulusref22_Get.calls 300000 s x b w hg).mono fun e' w' ⟨q1,q2⟩=>by subst q1;exact XAb H q2
  · cases e
def ov:Ov:=fun f=>match Nat.beq f 33 with
 | true=>some X6l
 | false=>match Nat.beq f 42 with
  | true=>some X67
  | false=>match Nat.beq f 44 with
   | true=>some X67
   | false=>match Nat.beq f 22 with
    | true=>some X9R
    | false=>ovs [8] f
theorem XDR:X8W P ov:=by
 intro f g e
 unfold ov at e
 split at e
 ·
  rename_i hf
  have:=Nat.eq_of_beq_eq_true hf
  subst this;cases e;exact itoaK
 split at e
 ·
  rename_i hf
  have:=Nat.eq_of_beq_eq_true hf
  subst this;cases e;exact put_k
 split at e
 ·
  rename_i hf
  have:=Nat.eq_of_beq_eq_true hf
  subst this;cases e;exact XDP
 split at e
 ·
  rename_i hf
  have:=Nat.eq_of_beq_eq_true hf
  subst this;cases e;exact XDQ
 · exact X83 (l:=[8]) (fun f hf=>by simp only [List.mem_singleton]at hf;subst hf;exact said8) f g e
theorem XAc:X2m P ov 8 [] (.bool true):=FnD.knownF (fn:=X9v) (vs:=[]) rfl (fun M g a ws h=>by cases h;rfl) (fun h=>rfl) (fun M g a=>CR.bool)
theorem X9S (n:Nat) (hn:n≤1000000):X2m P ov 33 [.int .i64 (n:Int)] (.str (X75 n)):=FnD.knownF (fn:=X6l) (vs:=[.int .i64 (n:Int)]) rfl XDL (fun h=>by simp only [X6l];rw [decide_eq_true (by omega)];rfl) (fun M g a=>CR.str)
theorem XBI (s:ByteArray) (hs:s.size≤1000):X2m P ov 42 [.str s] (.str (b64 s)):=FnD.knownF (fn:=X67) (vs:=[.string s]) rfl XBH (fun h=>by simp only [X67];rw [decide_eq_true hs]) (fun M g a=>CR.str)
theorem byt_rest (s:ByteArray):Byt (rest s 0):=by
 intro x hx
 unfold rest at hx
 obtain⟨b,_,rfl⟩:=List.mem_map.1 hx
 have:=b.toNat_lt
 omega
theorem XAd (s:ByteArray):strOfNums (rest s 0)=s:=by
 refine Go.WideShapes.bytes_inj ?_
 rw [strOfNums_data]
 unfold rest
 rw [List.drop_zero,List.map_map]
 conv=>rhs;rw [← List.map_id s.data.toList]
 refine List.map_congr_left fun b _=>?_
 simp only [Function.comp,id,Int.toNat_natCast]
 exact UInt8.ofNat_toNat
theorem X7q (s:ByteArray):rest (b64 s) 0=enc (rest s 0):=rest_str fun x hx=>by
 have:=enc_range _ (rest s 0) (Nat.le_refl _) x hx
 omega
theorem X3s (s:ByteArray):(b64 s).size=(s.size+2) / 3*4:=by
 have h:=congrArg List.length (X7q s)
 rw [(enc_len _ (rest s 0) (Nat.le_refl _)).1,rest_length,rest_length,Nat.sub_zero,Nat.sub_zero]at h
 exact h
theorem XCQ (s:ByteArray) (hs:s.size≤700):X2m P ov 22 [.str (b64 s)] (.tup [.str s,.bool true]):=by
 have hz:(b64 s).size≤1000:=by rw [X3s];omega
 obtain⟨r,h1,h2⟩:=rget_f hz (Nat.le_refl 300000)
 have h3:r=(s,true):=by
  rw [h2.2 (rest s 0) (byt_rest s) (X7q s).symm,XAd]
 subst h3
 refine FnD.knownF (fn:=X9R) (vs:=[.string (b64 s)]) (v:=.tuple #[.string s,.bool true]) rfl XBH (fun h=>?_) (fun M g a=>⟨[.string s,.bool true],rfl,.cons CR.str (.cons CR.bool .nil)⟩)
 simp only [X9R]
 rw [decide_eq_true hz,h1]
end
end Go.Proofs.YtmmmjbipgngamaaGreatDoor

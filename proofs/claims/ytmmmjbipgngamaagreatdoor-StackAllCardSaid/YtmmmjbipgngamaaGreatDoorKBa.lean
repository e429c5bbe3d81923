/-
  What is proved here: what some functions of base and rotulusref22 answer (printed by the kit's print.sh; put together by a program of mine). No conditions.
-/
import Derived.Test.YtmmmjbipgngamaaGreatDoorProg
import Derived.Below
import Derived.Deep.Draws
import Derived.Deep.AppendLies
import Derived.Maps.AppendAt
import Derived.OwnWalk
import Derived.Laws.BytesArg
import Derived.Laws.MakeOwn
import Derived.Laws.OwnMore
import Derived.Deep.OwnRows
import Derived.Tactics
import Derived.Lib.ConvBytes
import Derived.Laws.Slices
import Derived.WalkKit
import Derived.KernelRfl
import Derived.RowKit3
import Derived.Deep.LoopGhost
import Derived.Deep.QuietTactic
import Derived.BigQuiet
import Derived.WideLaws
import Derived.Deep.DeepCutAuto
import Derived.Deep.CutBlock
import Derived.Deep.RegionHeld3
import Derived.Laws.Rows
import Derived.Lib.AppendStr
import Derived.ArgAppend
import Derived.Laws.IdiomCopy
import Derived.OrdersHeld
import Derived.Laws.BitsLemmas
import Derived.RowKit
import Derived.Test.YtmmmjbipgngamaaGreatDoorWWords
set_option linter.unusedVariables false
set_option linter.unusedSimpArgs false
namespace Go.Proofs.YtmmmjbipgngamaaGreatDoor.PBase
open Go.RowKit Go.Proofs.YtmmmjbipgngamaaGreatDoorW.PrintWords Go.Proofs.YtmmmjbipgngamaaGreatDoorW.PrintLast Go.Proofs.YtmmmjbipgngamaaGreatDoorW.PrintMore
attribute [local go_sem] max2_int min2_int max_two min_two max_three min_three max_four min_four   -- for this text's walks alone
def errW:Option Int→Value
 | none=>.nilIface
 | some c=>.iface 0 (.int .i64 c)
theorem errW_none:errW none=.nilIface:=rfl
theorem errW_some (c:Int):errW (some c)=.iface 0 (.int .i64 c):=rfl
theorem info3:(Tryz.prog.info? 3).map (fun i=>(i.zero,i.size,i.bytes))=some (some (.int .i64 0),1,8):=by kernel_rfl
theorem info5:(Tryz.prog.info? 5).map (fun i=>(i.zero,i.size,i.bytes))=some (some (.int .u8 0),1,1):=by kernel_rfl
structure S110 where
 f0:Int
 f1:Int
 f2:Int
structure S119 where
 f0:Int
 f1:Int
 f2:(List Int)
 f3:ByteArray
def z119:S119:=⟨(0:Int),(0:Int),([]:List Int),(⟨#[]⟩:ByteArray)⟩
structure S76 where
 f0:(List S110)
 f1:Bool
def z76:S76:=⟨([]:List S110),false⟩
def base_sign.f (a0:Int):Option (Int):=if a0<26 then(some ((65+a0) % 256))else(if a0<52 then(some ((((97+a0) % 256) - 26) % 256))else(if a0<62 then(some ((((48+a0) % 256) - 52) % 256))else(if a0=62 then(some 43)else(some 47))))
set_option maxHeartbeats 8000000 in
set_option maxRecDepth 100000 in
theorem base_sign.calls (a0:Int) (r:Int) (w:World) (h:base_sign.f a0=some r) :
  Calls Tryz.prog 61 #[.int .u8 a0] w fun e w'=>e=.returned (.int .u8 r)∧Drawn0 w w':=by
 have H:(if a0<26 then(some ((65+a0) % 256))else(if a0<52 then(some ((((97+a0) % 256) - 26) % 256))else(if a0<62 then(some ((((48+a0) % 256) - 52) % 256))else(if a0=62 then(some 43)else(some 47)))))=some r:=h
 clear h
 by_cases c2:a0<26
 ·
  rw [if_pos c2]at H
  have c2b0:decide (a0<26)=true:=decide_eq_true c2
  clear c2
  obtain rfl:=Option.some.inj H
  go_enter Tryz.func61,Tryz.ntmps61
  go_wp2
  go_ret
  exact⟨by first | rfl | (simp;done) | (simp [*];done),by repeat (first | exact Drawn0.refl _ | apply Drawn0.step)⟩
 ·
  rw [if_neg c2]at H
  have c2b0:decide (a0<26)=false:=decide_eq_false c2
  clear c2
  by_cases c3:a0<52
  ·
   rw [if_pos c3]at H
   have c3b0:decide (a0<52)=true:=decide_eq_true c3
   clear c3
   obtain rfl:=Option.some.inj H
   go_enter Tryz.func61,Tryz.ntmps61
   go_wp2
   go_ret
   exact⟨by first | rfl | (simp;done) | (simp [*];done),by repeat (first | exact Drawn0.refl _ | apply Drawn0.step)⟩
  ·
   rw [if_neg c3]at H
   have c3b0:decide (a0<52)=false:=decide_eq_false c3
   clear c3
   by_cases c4:a0<62
   ·
    rw [if_pos c4]at H
    have c4b0:decide (a0<62)=true:=decide_eq_true c4
    clear c4
    obtain rfl:=Option.some.inj H
    go_enter Tryz.func61,Tryz.ntmps61
    go_wp2
    go_ret
    exact⟨by first | rfl | (simp;done) | (simp [*];done),by repeat (first | exact Drawn0.refl _ | apply Drawn0.step)⟩
   ·
    rw [if_neg c4]at H
    have c4b0:decide (a0<62)=false:=decide_eq_false c4
    clear c4
    by_cases c5:a0=62
    ·
     rw [if_pos c5]at H
     have c5b0:(a0 == 62)=true:=beq_iff_eq.mpr c5
     have c5b1:(a0 != 62)=false:=bne_eq_false_iff_eq.mpr c5
     clear c5
     obtain rfl:=Option.some.inj H
     go_enter Tryz.func61,Tryz.ntmps61
     go_wp2
     go_ret
     exact⟨by first | rfl | (simp;done) | (simp [*];done),by repeat (first | exact Drawn0.refl _ | apply Drawn0.step)⟩
    ·
     rw [if_neg c5]at H
     have c5b0:(a0 == 62)=false:=beq_eq_false_iff_ne.mpr c5
     have c5b1:(a0 != 62)=true:=bne_iff_ne.mpr c5
     obtain rfl:=Option.some.inj H
     go_enter Tryz.func61,Tryz.ntmps61
     go_wp2
     go_ret
     exact⟨by first | rfl | (simp;done) | (simp [*];done),by repeat (first | exact Drawn0.refl _ | apply Drawn0.step)⟩
mutual
def base_Put.l0:Nat→ByteArray→List Int→Int→Option (ByteArray)
 | 0,_,_,_=>none
 | k+1,x0,x3,x4=>if x4<(x0.size:Int)then(base_Put.l1 k x0 x3 x4 0 (mn (wrap64 ((x0.size:Int) - x4)) 3) 0)else(some (strOfNums x3))
def base_Put.l1:Nat→ByteArray→List Int→Int→Int→Int→Int→Option (ByteArray)
 | 0,_,_,_,_,_,_=>none
 | k+1,x0,x3,x4,x5,x6,x20=>if x20<3 then(if x20<x6 then(if 0≤(wrap64 (x4+x20))then(if (wrap64 (x4+x20))<(x0.size:Int)then(base_Put.l1 k x0 x3 x4 (Go.bits .or .i64 (wrap64 (x5*256)) (wrap64 (bt x0 (wrap64 (x4+x20))))) x6 (wrap64 (x20+1)))else(none))else(none))else(base_Put.l1 k x0 x3 x4 (wrap64 (x5*256)) x6 (wrap64 (x20+1))))else(base_Put.l2 k x0 x3 x4 x5 x6 0)
def base_Put.l2:Nat→ByteArray→List Int→Int→Int→Int→Int→Option (ByteArray)
 | 0,_,_,_,_,_,_=>none
 | k+1,x0,x3,x4,x5,x6,x37=>if x37<4 then(if x37≤x6 then(if 0≤(wrap64 (18 - (wrap64 (6*x37))))then((base_sign.f ((Go.bits .and .i64 (shr .i64 x5 (wrap64 (18 - (wrap64 (6*x37))))) 63) % 256)).bind fun t123=>(if x3.length<140737488355328 then(base_Put.l2 k x0 (x3++[t123]) x4 x5 x6 (wrap64 (x37+1)))else(none)))else(none))else(if x3.length<140737488355328 then(base_Put.l2 k x0 (x3++[61]) x4 x5 x6 (wrap64 (x37+1)))else(none)))else(base_Put.l0 k x0 x3 (wrap64 (x4+3)))
end
def base_Put.f (k:Nat) (a0:ByteArray):Option (ByteArray):=base_Put.l0 k a0 ([]:List Int) 0
theorem base_Put.mono_l:∀ k,(∀ y0 y1 y2,LeO (base_Put.l0 k y0 y1 y2) (base_Put.l0 (k+1) y0 y1 y2))∧(∀ y0 y1 y2 y3 y4 y5,LeO (base_Put.l1 k y0 y1 y2 y3 y4 y5) (base_Put.l1 (k+1) y0 y1 y2 y3 y4 y5))∧(∀ y0 y1 y2 y3 y4 y5,LeO (base_Put.l2 k y0 y1 y2 y3 y4 y5) (base_Put.l2 (k+1) y0 y1 y2 y3 y4 y5))
 | 0=>⟨fun _ _ _ r h=>by simp [base_Put.l0]at h,fun _ _ _ _ _ _ r h=>by simp [base_Put.l1]at h,fun _ _ _ _ _ _ r h=>by simp [base_Put.l2]at h⟩
 | k+1=>by
  obtain⟨ih0,ih1,ih2⟩:=base_Put.mono_l k
  refine⟨?_,?_,?_⟩
  ·
   intro y0 y1 y2
   unfold base_Put.l0
   repeat' first
   | (with_reducible exact ih0 _ _ _)
   | (with_reducible exact ih1 _ _ _ _ _ _)
   | (with_reducible exact ih2 _ _ _ _ _ _)
   | (with_reducible exact LeO.refl _)
   | (with_reducible exact LeO.none _)
   | (with_reducible refine LeO.ite ?_ ?_)
   | (with_reducible refine LeO.bind ?_ (fun _=>?_))
   | exact ih0 _ _ _
   | exact ih1 _ _ _ _ _ _
   | exact ih2 _ _ _ _ _ _
   | exact LeO.none _
   | refine LeO.ite ?_ ?_
   | refine LeO.bind ?_ (fun _=>?_)
  ·
   intro y0 y1 y2 y3 y4 y5
   unfold base_Put.l1
   repeat' first
   | (with_reducible exact ih0 _ _ _)
   | (with_reducible exact ih1 _ _ _ _ _ _)
   | (with_reducible exact ih2 _ _ _ _ _ _)
   | (with_reducible exact LeO.refl _)
   | (with_reducible exact LeO.none _)
   | (with_reducible refine LeO.ite ?_ ?_)
   | (with_reducible refine LeO.bind ?_ (fun _=>?_))
   | exact ih0 _ _ _
   | exact ih1 _ _ _ _ _ _
   | exact ih2 _ _ _ _ _ _
   | exact LeO.none _
   | refine LeO.ite ?_ ?_
   | refine LeO.bind ?_ (fun _=>?_)
  ·
   intro y0 y1 y2 y3 y4 y5
   unfold base_Put.l2
   repeat' first
   | (with_reducible exact ih0 _ _ _)
   | (with_reducible exact ih1 _ _ _ _ _ _)
   | (with_reducible exact ih2 _ _ _ _ _ _)
   | (with_reducible exact LeO.refl _)
   | (with_reducible exact LeO.none _)
   | (with_reducible refine LeO.ite ?_ ?_)
   | (with_reducible refine LeO.bind ?_ (fun _=>?_))
   | exact ih0 _ _ _
   | exact ih1 _ _ _ _ _ _
   | exact ih2 _ _ _ _ _ _
   | exact LeO.none _
   | refine LeO.ite ?_ ?_
   | refine LeO.bind ?_ (fun _=>?_)
theorem base_Put.mono:∀ a0 k,LeO (base_Put.f k a0) (base_Put.f (k+1) a0):=by
 intro a0 k
 obtain⟨ih0,ih1,ih2⟩:=base_Put.mono_l k
 unfold base_Put.f
 repeat' first
   | (with_reducible exact ih0 _ _ _)
   | (with_reducible exact ih1 _ _ _ _ _ _)
   | (with_reducible exact ih2 _ _ _ _ _ _)
   | (with_reducible exact LeO.refl _)
   | (with_reducible exact LeO.none _)
   | (with_reducible refine LeO.ite ?_ ?_)
   | (with_reducible refine LeO.bind ?_ (fun _=>?_))
   | exact ih0 _ _ _
   | exact ih1 _ _ _ _ _ _
   | exact ih2 _ _ _ _ _ _
   | exact LeO.none _
   | refine LeO.ite ?_ ?_
   | refine LeO.bind ?_ (fun _=>?_)
set_option maxHeartbeats 8000000 in
set_option maxRecDepth 100000 in
theorem base_Put.calls (k:Nat) (a0:ByteArray) (r:ByteArray) (w:World) (h:base_Put.f k a0=some r) :
  Calls Tryz.prog 42 #[.string a0] w fun e w'=>e=.returned (.string r)∧Below w.heap.size w w':=by
 have HB:=Aside0.mk (Below.refl w.heap.size w)
 have H:(base_Put.l0 k a0 ([]:List Int) 0)=some r:=h
 clear h
 have H':=Aside0.mk H
 clear H
 go_enter Tryz.func42,Tryz.ntmps42
 go_wp2
 go_loopg [3,4] k (fun kq v3 v4 w'=>∃ (x3_1:List Int) (x4_1:Int),v4=.int .i64 x4_1∧Aside0 (base_Put.l0 kq a0 x3_1 x4_1=some r)∧Aside0 (kq≤k)∧Aside0 (Kd.R (Kd.int .u8) 5 w' w.heap.size (fun _=>True) v3 x3_1)∧Aside0 (Below w.heap.size w w'))
 case atStart=>exact⟨(([]:List Int)),(0),(by first | rfl | (simp;done) | (simp [*];done)),H',⟨Nat.le_refl _⟩,⟨by first | exact Kd.R_nil _ _ _ _ _ | exact Kd.N_nil _ _ _ _ _ | exact Kd.V_nil _ _ _ _ _ | exact Kd.Q_nil _ _ _ _ _ | exact Kd.S_nil _ _ _ _ _⟩,⟨by repeat (first | (with_reducible first | exact HB.out | apply below_alloc | apply pw_below_drewN | apply below_drew1) | exact HB.out)⟩⟩
 case round =>
  clear H'
  obtain⟨x3_1,x4_1,rfl,HA,HK1,HO_3,HB⟩:=hrel
  cases gk with
  | zero=>exact absurd HA.out (by simp [base_Put.l0])
  | succ k1 =>
   have H:=HA.out
   clear HA
   simp only [base_Put.l0]at H
   by_cases c2:x4_1<(a0.size:Int)
   ·
    rw [if_pos c2]at H
    have c2b0:decide (x4_1<(a0.size:Int))=true:=decide_eq_true c2
    clear c2
    obtain⟨ji3,hji3⟩:∃ j_:Int,(mn (wrap64 ((a0.size:Int) - x4_1)) 3)=j_:=⟨_,rfl⟩
    replace H:(base_Put.l1 k1 a0 x3_1 x4_1 0 ji3 0)=some r:=by first | (rw [hji3]at H;exact H) | (simp only [hji3]at H ⊢;exact H)
    have hji3_:(if 3<(wrap64 ((a0.size:Int) - x4_1))then 3 else(wrap64 ((a0.size:Int) - x4_1)))=ji3:=hji3
    have H':=Aside0.mk H
    clear H
    go_wp2
    go_loopg [5,20] k1 (fun kq v5 v20 w'=>∃ (x5_2:Int) (x20_2:Int),v5=.int .i64 x5_2∧v20=.int .i64 x20_2∧Aside0 (base_Put.l1 kq a0 x3_1 x4_1 x5_2 ji3 x20_2=some r)∧Aside0 (kq≤k1)∧Aside0 (Kd.R (Kd.int .u8) 5 w' w.heap.size (fun _=>True) u3 x3_1)∧Aside0 (Below w.heap.size w w'))
    case atStart=>exact⟨(0),(0),(by first | rfl | (simp;done) | (simp [*];done)),(by first | rfl | (simp;done) | (simp [*];done)),H',⟨Nat.le_refl _⟩,⟨by(with_reducible repeat (first | apply Kd.R_alloc | apply Kd.R_drewN | apply Kd.R_drew));exact HO_3.out⟩,⟨by repeat (first | (with_reducible first | exact HB.out | apply below_alloc | apply pw_below_drewN | apply below_drew1) | exact HB.out)⟩⟩
    case round =>
     clear H'
     try clear c2
     try clear c2b0
     try clear p2
     obtain⟨x5_2,x20_2,rfl,rfl,HA,HK2,HO_3,HB⟩:=hrel
     cases gk with
     | zero=>exact absurd HA.out (by simp [base_Put.l1])
     | succ k2 =>
      have H:=HA.out
      clear HA
      simp only [base_Put.l1]at H
      by_cases c4:x20_2<3
      ·
       rw [if_pos c4]at H
       have c4b0:decide (x20_2<3)=true:=decide_eq_true c4
       clear c4
       by_cases c5:x20_2<ji3
       ·
        rw [if_pos c5]at H
        have c5b0:decide (x20_2<ji3)=true:=decide_eq_true c5
        clear c5
        obtain⟨ji6,hji6⟩:∃ j_:Int,(wrap64 (x4_1+x20_2))=j_:=⟨_,rfl⟩
        replace H:(if 0≤(ji6)then(if (ji6)<(a0.size:Int)then(base_Put.l1 k2 a0 x3_1 x4_1 (Go.bits .or .i64 (wrap64 (x5_2*256)) (wrap64 (bt a0 (ji6)))) ji3 (wrap64 (x20_2+1)))else(none))else(none))=some r:=by first | (rw [hji6]at H;exact H) | (simp only [hji6]at H ⊢;exact H)
        have hji6w:(IntKind.i64.wrap (x4_1+x20_2))=ji6:=(i64_w _).trans hji6
        by_cases c7:0≤(ji6)
        ·
         rw [if_pos c7]at H
         have c7b0:decide (0≤(ji6))=true:=decide_eq_true c7
         clear c7
         by_cases c8:(ji6)<(a0.size:Int)
         ·
          rw [if_pos c8]at H
          have c8b0:decide ((ji6)<(a0.size:Int))=true:=decide_eq_true c8
          clear c8
          have H':=Aside0.mk H
          clear H
          have p9:0≤((ji6):Int):=of_decide_eq_true (by first | (with_reducible assumption) | assumption)
          have q9:(ji6)<(a0.size:Int):=of_decide_eq_true (by first | (with_reducible assumption) | assumption)
          have hx9:=bt_at a0 (ji6)
          replace p9:=eq_true p9
          replace q9:=eq_true q9
          go_wp2
          go_roundg k2
          case measure=>have:=HK1.out;have:=HK2.out;omega
          case rel=>exact⟨(Go.bits .or .i64 (wrap64 (x5_2*256)) (wrap64 (bt a0 (ji6)))),(wrap64 (x20_2+1)),(by first | rfl | (simp;done) | (simp only [← hji6]<;>(first | rfl | simp)) | (simp [*];done)),(by first | rfl | (simp;done) | (simp [*];done)),H',⟨by have:=HK1.out;have:=HK2.out;omega⟩,⟨by(with_reducible repeat (first | apply Kd.R_alloc | apply Kd.R_drewN | apply Kd.R_drew));exact HO_3.out⟩,⟨by repeat (first | (with_reducible first | exact HB.out | apply below_alloc | apply pw_below_drewN | apply below_drew1) | exact HB.out)⟩⟩
         ·
          rw [if_neg c8]at H
          exact absurd H (by simp)
        ·
         rw [if_neg c7]at H
         exact absurd H (by simp)
       ·
        rw [if_neg c5]at H
        have c5b0:decide (x20_2<ji3)=false:=decide_eq_false c5
        clear c5
        have H':=Aside0.mk H
        clear H
        go_wp2
        go_roundg k2
        case measure=>have:=HK1.out;have:=HK2.out;omega
        case rel=>exact⟨(wrap64 (x5_2*256)),(wrap64 (x20_2+1)),(by first | rfl | (simp;done) | (simp [*];done)),(by first | rfl | (simp;done) | (simp [*];done)),H',⟨by have:=HK1.out;have:=HK2.out;omega⟩,⟨by(with_reducible repeat (first | apply Kd.R_alloc | apply Kd.R_drewN | apply Kd.R_drew));exact HO_3.out⟩,⟨by repeat (first | (with_reducible first | exact HB.out | apply below_alloc | apply pw_below_drewN | apply below_drew1) | exact HB.out)⟩⟩
      ·
       rw [if_neg c4]at H
       have c4b0:decide (x20_2<3)=false:=decide_eq_false c4
       clear c4
       have H':=Aside0.mk H
       clear H
       go_wp2
       go_loopg [3,37] k2 (fun kq v3 v37 w'=>∃ (x3_3:List Int) (x37_3:Int),v37=.int .i64 x37_3∧Aside0 (base_Put.l2 kq a0 x3_3 x4_1 x5_2 ji3 x37_3=some r)∧Aside0 (kq≤k2)∧Aside0 (Kd.R (Kd.int .u8) 5 w' w.heap.size (fun _=>True) v3 x3_3)∧Aside0 (Below w.heap.size w w'))
       case atStart=>exact⟨(x3_1),(0),(by first | rfl | (simp;done) | (simp [*];done)),H',⟨Nat.le_refl _⟩,⟨by(with_reducible repeat (first | apply Kd.R_alloc | apply Kd.R_drewN | apply Kd.R_drew));exact HO_3.out⟩,⟨by repeat (first | (with_reducible first | exact HB.out | apply below_alloc | apply pw_below_drewN | apply below_drew1) | exact HB.out)⟩⟩
       case round =>
        clear H'
        try clear c2
        try clear c2b0
        try clear p2
        try clear c4
        try clear c4b0
        try clear c5
        try clear c5b0
        try clear p6
        try clear c7
        try clear c7b0
        try clear c8
        try clear c8b0
        try clear p9
        try clear q9
        try clear hx9
        try clear p2
        try clear p9
        try clear q9
        obtain⟨x3_3,x37_3,rfl,HA,HK3,HO_3,HB⟩:=hrel
        cases gk with
        | zero=>exact absurd HA.out (by simp [base_Put.l2])
        | succ k3 =>
         have H:=HA.out
         clear HA
         simp only [base_Put.l2]at H
         by_cases c10:x37_3<4
         ·
          rw [if_pos c10]at H
          have c10b0:decide (x37_3<4)=true:=decide_eq_true c10
          clear c10
          by_cases c11:x37_3≤ji3
          ·
           rw [if_pos c11]at H
           have c11b0:decide (x37_3≤ji3)=true:=decide_eq_true c11
           clear c11
           obtain⟨ji12,hji12⟩:∃ j_:Int,(wrap64 (18 - (wrap64 (6*x37_3))))=j_:=⟨_,rfl⟩
           replace H:(if 0≤(ji12)then((base_sign.f ((Go.bits .and .i64 (shr .i64 x5_2 (ji12)) 63) % 256)).bind fun t123=>(if x3_3.length<140737488355328 then(base_Put.l2 k3 a0 (x3_3++[t123]) x4_1 x5_2 ji3 (wrap64 (x37_3+1)))else(none)))else(none))=some r:=by first | (rw [hji12]at H;exact H) | (simp only [hji12]at H ⊢;exact H)
           have hji12w:(IntKind.i64.wrap (18 - (wrap64 (6*x37_3))))=ji12:=(i64_w _).trans hji12
           by_cases c13:0≤(ji12)
           ·
            rw [if_pos c13]at H
            have c13b0:=eq_true c13
            have c13b1:decide (0≤(ji12))=true:=decide_eq_true c13
            clear c13
            obtain⟨ji14,hji14⟩:∃ j_:Int,(shr .i64 x5_2 (ji12))=j_:=⟨_,rfl⟩
            replace H:((base_sign.f ((Go.bits .and .i64 (ji14) 63) % 256)).bind fun t123=>(if x3_3.length<140737488355328 then(base_Put.l2 k3 a0 (x3_3++[t123]) x4_1 x5_2 ji3 (wrap64 (x37_3+1)))else(none)))=some r:=by first | (rw [hji14]at H;exact H) | (simp only [hji14]at H ⊢;exact H)
            have hji14_:(x5_2 / 2 ^ min (ji12).toNat 64)=ji14:=hji14
            have hji14z:(ji12)≤64→(x5_2 / 2 ^ (ji12).toNat)=ji14:=shr_small hji14
            replace H:=Option.bind_eq_some_iff.mp H
            obtain⟨t123,A150,H⟩:=H
            replace H:(if x3_3.length<140737488355328 then(base_Put.l2 k3 a0 (x3_3++[t123]) x4_1 x5_2 ji3 (wrap64 (x37_3+1)))else(none))=some r:=H
            have A15:=Aside0.mk A150
            clear A150
            by_cases c16:x3_3.length<140737488355328
            ·
             rw [if_pos c16]at H
             have LMc16:=Aside0.mk c16
             clear c16
             obtain⟨y124,hy124⟩:∃ y_:List Int,y_=(x3_3++[t123]):=⟨_,rfl⟩
             replace H:(base_Put.l2 k3 a0 y124 x4_1 x5_2 ji3 (wrap64 (x37_3+1)))=some r:=by first | (rw [hy124];with_reducible exact H) | (have H2_:=(Option.bind_some _ _).symm.trans H;rw [hy124];with_reducible exact H2_) | (have H2_:=(Option.bind_some _ _).symm.trans H;with_reducible exact H2_) | with_reducible exact H | (rw [hy124];exact H) | exact H
             have Ny124:=Aside0.mk hy124
             clear hy124
             have H':=Aside0.mk H
             clear H
             go_wp2_with (first | ((with_reducible refine gate_callee (f:=61) rfl ?_);refine goesL_ (some 51) rfl rfl Tryz.func61 (by kernel_rfl) rfl #[.int .u8 ((Go.bits .and .i64 (ji14) 63) % 256)] rfl (by(try simp only [List.map_toArray,List.map_cons,List.map_nil]);first | done | (simp only [hji14];rfl) | rfl | (simp only [List.length_drop,List.length_take];rfl)) ?_;(with_reducible refine(base_sign.calls ((Go.bits .and .i64 (ji14) 63) % 256) t123 _ A15.out).mono ?_);rintro e w' ⟨rfl,⟨nd,rfl⟩⟩;refine⟨_,rfl,?_⟩) | ((with_reducible refine gate_builtin (b:=.append) (xs:=#[.tmp 43,.tmp 52]) rfl ?_);at_builtin;refine Kd.R_append (Kd.int .u8) (w0:=w) w.heap.size rfl (.tmp 43) (.tmp 52) 66 5 (.int .u8 0) 1 rfl Tryz.underlying66 info5 rfl (by decide) (by omega) u3 x3_3 t123 [.int .u8 t123] (fun _=>True) (fun _=>False) rfl rfl ?aP (fun _ hk=>hk.elim) ?aF ?aO ?aB ?aS ?aL ?_;(case aP=>exact rfl);(case aB=>exact(by repeat (first | (with_reducible first | exact HB.out | apply below_alloc | apply pw_below_drewN | apply below_drew1) | exact HB.out)));(case aF=>exact(fun _ _=>trivial));(case aO=>exact(by(with_reducible repeat (first | apply Kd.R_alloc | apply Kd.R_drewN | apply Kd.R_drew));exact HO_3.out));(case aS=>exact(below_size (by repeat (first | (with_reducible first | exact HB.out | apply below_alloc | apply pw_below_drewN | apply below_drew1) | exact HB.out))));(case aL=>have:=LMc16.out;omega);intro v125 w17 ho hb hg hat;rw [← Ny124.out]at ho;have n0_:=Aside0.mk (hb);have n1_:=Aside0.mk (ho);clear HB;clear HO_3;have HB:=n0_;have HO126:=n1_;clear n0_ n1_;clear ho hb hg hat))
             go_roundg k3
             case measure=>have:=HK1.out;have:=HK2.out;have:=HK3.out;omega
             case rel=>exact⟨(y124),(wrap64 (x37_3+1)),(by first | rfl | (simp;done) | (simp [*];done)),H',⟨by have:=HK1.out;have:=HK2.out;have:=HK3.out;omega⟩,⟨by(with_reducible repeat (first | apply Kd.R_alloc | apply Kd.R_drewN | apply Kd.R_drew));exact HO126.out⟩,⟨by repeat (first | (with_reducible first | exact HB.out | apply below_alloc | apply pw_below_drewN | apply below_drew1) | exact HB.out)⟩⟩
            ·
             rw [if_neg c16]at H
             exact absurd H (by simp)
           ·
            rw [if_neg c13]at H
            exact absurd H (by simp)
          ·
           rw [if_neg c11]at H
           have c11b0:decide (x37_3≤ji3)=false:=decide_eq_false c11
           clear c11
           by_cases c18:x3_3.length<140737488355328
           ·
            rw [if_pos c18]at H
            have LMc18:=Aside0.mk c18
            clear c18
            obtain⟨y127,hy127⟩:∃ y_:List Int,y_=(x3_3++[61]):=⟨_,rfl⟩
            replace H:(base_Put.l2 k3 a0 y127 x4_1 x5_2 ji3 (wrap64 (x37_3+1)))=some r:=by first | (rw [hy127];with_reducible exact H) | (have H2_:=(Option.bind_some _ _).symm.trans H;rw [hy127];with_reducible exact H2_) | (have H2_:=(Option.bind_some _ _).symm.trans H;with_reducible exact H2_) | with_reducible exact H | (rw [hy127];exact H) | exact H
            have Ny127:=Aside0.mk hy127
            clear hy127
            have H':=Aside0.mk H
            clear H
            go_wp2_with (first | ((with_reducible refine gate_builtin (b:=.append) (xs:=#[.tmp 54,.tmp 55]) rfl ?_);at_builtin;refine Kd.R_append (Kd.int .u8) (w0:=w) w.heap.size rfl (.tmp 54) (.tmp 55) 66 5 (.int .u8 0) 1 rfl Tryz.underlying66 info5 rfl (by decide) (by omega) u3 x3_3 61 [.int .u8 61] (fun _=>True) (fun _=>False) rfl rfl ?aP (fun _ hk=>hk.elim) ?aF ?aO ?aB ?aS ?aL ?_;(case aP=>exact rfl);(case aB=>exact(by repeat (first | (with_reducible first | exact HB.out | apply below_alloc | apply pw_below_drewN | apply below_drew1) | exact HB.out)));(case aF=>exact(fun _ _=>trivial));(case aO=>exact(by(with_reducible repeat (first | apply Kd.R_alloc | apply Kd.R_drewN | apply Kd.R_drew));exact HO_3.out));(case aS=>exact(below_size (by repeat (first | (with_reducible first | exact HB.out | apply below_alloc | apply pw_below_drewN | apply below_drew1) | exact HB.out))));(case aL=>have:=LMc18.out;omega);intro v128 w19 ho hb hg hat;rw [← Ny127.out]at ho;have n0_:=Aside0.mk (hb);have n1_:=Aside0.mk (ho);clear HB;clear HO_3;have HB:=n0_;have HO129:=n1_;clear n0_ n1_;clear ho hb hg hat))
            go_roundg k3
            case measure=>have:=HK1.out;have:=HK2.out;have:=HK3.out;omega
            case rel=>exact⟨(y127),(wrap64 (x37_3+1)),(by first | rfl | (simp;done) | (simp [*];done)),H',⟨by have:=HK1.out;have:=HK2.out;have:=HK3.out;omega⟩,⟨by(with_reducible repeat (first | apply Kd.R_alloc | apply Kd.R_drewN | apply Kd.R_drew));exact HO129.out⟩,⟨by repeat (first | (with_reducible first | exact HB.out | apply below_alloc | apply pw_below_drewN | apply below_drew1) | exact HB.out)⟩⟩
           ·
            rw [if_neg c18]at H
            exact absurd H (by simp)
         ·
          rw [if_neg c10]at H
          have c10b0:decide (x37_3<4)=false:=decide_eq_false c10
          clear c10
          have H':=Aside0.mk H
          clear H
          go_wp2
          go_roundg k3
          case measure=>have:=HK1.out;have:=HK2.out;have:=HK3.out;omega
          case rel=>exact⟨(x3_3),(wrap64 (x4_1+3)),(by first | rfl | (simp;done) | (simp [*];done)),H',⟨by have:=HK1.out;have:=HK2.out;have:=HK3.out;omega⟩,⟨by(with_reducible repeat (first | apply Kd.R_alloc | apply Kd.R_drewN | apply Kd.R_drew));exact HO_3.out⟩,⟨by repeat (first | (with_reducible first | exact HB.out | apply below_alloc | apply pw_below_drewN | apply below_drew1) | exact HB.out)⟩⟩
   ·
    rw [if_neg c2]at H
    have c2b0:decide (x4_1<(a0.size:Int))=false:=decide_eq_false c2
    clear c2
    obtain rfl:=Option.some.inj H
    have hcv20:=own_string (P:=Tryz.prog) Tryz.underlying66 Tryz.underlying5 Tryz.underlying9 (Kd.own_of_R HO_3.out)
    go_wp2
    go_ret
    exact⟨by first | rfl | (simp [errW_none,errW_some]<;>rfl) | (simp [*,errW_none,errW_some]<;>rfl),by repeat (first | (with_reducible first | exact HB.out | apply below_alloc | apply pw_below_drewN | apply below_drew1) | exact HB.out)⟩
def rotulusref22_signs.f  : Option (ByteArray):=some (⟨#[65,66,67,68,69,70,71,72,73,74,75,76,77,78,79,80,81,82,83,84,85,86,87,88,89,90,97,98,99,100,101,102,103,104,105,106,107,108,109,110,111,112,113,114,115,116,117,118,119,120,121,122,48,49,50,51,52,53,54,55,56,57,43,47]⟩:ByteArray)
set_option maxHeartbeats 8000000 in
set_option maxRecDepth 100000 in
theorem rotulusref22_signs.calls  (r:ByteArray) (w:World) (h:rotulusref22_signs.f  = some r) :
  Calls Tryz.prog 43 #[] w fun e w'=>e=.returned (.string r)∧Drawn0 w w':=by
 have H:(some (⟨#[65,66,67,68,69,70,71,72,73,74,75,76,77,78,79,80,81,82,83,84,85,86,87,88,89,90,97,98,99,100,101,102,103,104,105,106,107,108,109,110,111,112,113,114,115,116,117,118,119,120,121,122,48,49,50,51,52,53,54,55,56,57,43,47]⟩:ByteArray))=some r:=h
 clear h
 obtain rfl:=Option.some.inj H
 go_enter Tryz.func43,Tryz.ntmps43
 go_wp2
 go_ret
 exact⟨by first | rfl | (simp;done) | (simp [*];done),by repeat (first | exact Drawn0.refl _ | apply Drawn0.step)⟩
mutual
def rotulusref22_Put.l0:Nat→ByteArray→List Int→Int→Option (ByteArray)
 | 0,_,_,_=>none
 | k+1,x0,x3,x4=>if x4<(x0.size:Int)then(rotulusref22_Put.l1 k x0 x3 x4 128)else(rotulusref22_Put.l2 k x3 (⟨#[]⟩:ByteArray) 0)
def rotulusref22_Put.l1:Nat→ByteArray→List Int→Int→Int→Option (ByteArray)
 | 0,_,_,_,_=>none
 | k+1,x0,x3,x4,x5=>if x5>0 then(if 0≤x4 then(if x4<(x0.size:Int)then(if x5=0 then(none)else(if x3.length<17592186044416 then(rotulusref22_Put.l1 k x0 (x3++[Int.tmod (wrap64 (Int.tdiv (wrap64 (bt x0 x4)) x5)) 2]) x4 (wrap64 (Int.tdiv x5 2)))else(none)))else(none))else(none))else(rotulusref22_Put.l0 k x0 x3 (wrap64 (x4+1)))
def rotulusref22_Put.l2:Nat→List Int→ByteArray→Int→Option (ByteArray)
 | 0,_,_,_=>none
 | k+1,x3,x6,x7=>if x7<(x3.length:Int)then(rotulusref22_Put.l3 k x3 x6 x7 0 x7)else(rotulusref22_Put.l4 k x6)
def rotulusref22_Put.l3:Nat→List Int→ByteArray→Int→Int→Int→Option (ByteArray)
 | 0,_,_,_,_,_=>none
 | k+1,x3,x6,x7,x8,x9=>if x9<(wrap64 (x7+6))then(if x9<(x3.length:Int)then(if 0≤x9 then(rotulusref22_Put.l3 k x3 x6 x7 (wrap64 ((wrap64 (x8*2))+(rd x3 x9))) (wrap64 (x9+1)))else(none))else(rotulusref22_Put.l3 k x3 x6 x7 (wrap64 (x8*2)) (wrap64 (x9+1))))else((rotulusref22_signs.f).bind fun t663=>(if 0≤x8 then(if x8≤(wrap64 (x8+1))then(if (wrap64 (x8+1))≤(t663.size:Int)then(if x6.size+(t663.extract (x8:Int).toNat ((wrap64 (x8+1)):Int).toNat).size≤9223372036854775807 then(rotulusref22_Put.l2 k x3 (x6++(t663.extract (x8:Int).toNat ((wrap64 (x8+1)):Int).toNat)) (wrap64 (x7+6)))else(none))else(none))else(none))else(none)))
def rotulusref22_Put.l4:Nat→ByteArray→Option (ByteArray)
 | 0,_=>none
 | k+1,x6=>if ((x6.size:Int) % 4)=0 then(some x6)else(if x6.size+1≤9223372036854775807 then(rotulusref22_Put.l4 k (x6++(⟨#[61]⟩:ByteArray)))else(none))
end
def rotulusref22_Put.f (k:Nat) (a0:ByteArray):Option (ByteArray):=rotulusref22_Put.l0 k a0 ([]:List Int) 0
theorem rotulusref22_Put.mono_l:∀ k,(∀ y0 y1 y2,LeO (rotulusref22_Put.l0 k y0 y1 y2) (rotulusref22_Put.l0 (k+1) y0 y1 y2))∧(∀ y0 y1 y2 y3,LeO (rotulusref22_Put.l1 k y0 y1 y2 y3) (rotulusref22_Put.l1 (k+1) y0 y1 y2 y3))∧(∀ y0 y1 y2,LeO (rotulusref22_Put.l2 k y0 y1 y2) (rotulusref22_Put.l2 (k+1) y0 y1 y2))∧(∀ y0 y1 y2 y3 y4,LeO (rotulusref22_Put.l3 k y0 y1 y2 y3 y4) (rotulusref22_Put.l3 (k+1) y0 y1 y2 y3 y4))∧(∀ y0,LeO (rotulusref22_Put.l4 k y0) (rotulusref22_Put.l4 (k+1) y0))
 | 0=>⟨fun _ _ _ r h=>by simp [rotulusref22_Put.l0]at h,fun _ _ _ _ r h=>by simp [rotulusref22_Put.l1]at h,fun _ _ _ r h=>by simp [rotulusref22_Put.l2]at h,fun _ _ _ _ _ r h=>by simp [rotulusref22_Put.l3]at h,fun _ r h=>by simp [rotulusref22_Put.l4]at h⟩
 | k+1=>by
  obtain⟨ih0,ih1,ih2,ih3,ih4⟩:=rotulusref22_Put.mono_l k
  refine⟨?_,?_,?_,?_,?_⟩
  ·
   intro y0 y1 y2
   unfold rotulusref22_Put.l0
   repeat' first
   | (with_reducible exact ih0 _ _ _)
   | (with_reducible exact ih1 _ _ _ _)
   | (with_reducible exact ih2 _ _ _)
   | (with_reducible exact ih3 _ _ _ _ _)
   | (with_reducible exact ih4 _)
   | (with_reducible exact LeO.refl _)
   | (with_reducible exact LeO.none _)
   | (with_reducible refine LeO.ite ?_ ?_)
   | (with_reducible refine LeO.bind ?_ (fun _=>?_))
   | exact ih0 _ _ _
   | exact ih1 _ _ _ _
   | exact ih2 _ _ _
   | exact ih3 _ _ _ _ _
   | exact ih4 _
   | exact LeO.none _
   | refine LeO.ite ?_ ?_
   | refine LeO.bind ?_ (fun _=>?_)
  ·
   intro y0 y1 y2 y3
   unfold rotulusref22_Put.l1
   repeat' first
   | (with_reducible exact ih0 _ _ _)
   | (with_reducible exact ih1 _ _ _ _)
   | (with_reducible exact ih2 _ _ _)
   | (with_reducible exact ih3 _ _ _ _ _)
   | (with_reducible exact ih4 _)
   | (with_reducible exact LeO.refl _)
   | (with_reducible exact LeO.none _)
   | (with_reducible refine LeO.ite ?_ ?_)
   | (with_reducible refine LeO.bind ?_ (fun _=>?_))
   | exact ih0 _ _ _
   | exact ih1 _ _ _ _
   | exact ih2 _ _ _
   | exact ih3 _ _ _ _ _
   | exact ih4 _
   | exact LeO.none _
   | refine LeO.ite ?_ ?_
   | refine LeO.bind ?_ (fun _=>?_)
  ·
   intro y0 y1 y2
   unfold rotulusref22_Put.l2
   repeat' first
   | (with_reducible exact ih0 _ _ _)
   | (with_reducible exact ih1 _ _ _ _)
   | (with_reducible exact ih2 _ _ _)
   | (with_reducible exact ih3 _ _ _ _ _)
   | (with_reducible exact ih4 _)
   | (with_reducible exact LeO.refl _)
   | (with_reducible exact LeO.none _)
   | (with_reducible refine LeO.ite ?_ ?_)
   | (with_reducible refine LeO.bind ?_ (fun _=>?_))
   | exact ih0 _ _ _
   | exact ih1 _ _ _ _
   | exact ih2 _ _ _
   | exact ih3 _ _ _ _ _
   | exact ih4 _
   | exact LeO.none _
   | refine LeO.ite ?_ ?_
   | refine LeO.bind ?_ (fun _=>?_)
  ·
   intro y0 y1 y2 y3 y4
   unfold rotulusref22_Put.l3
   repeat' first
   | (with_reducible exact ih0 _ _ _)
   | (with_reducible exact ih1 _ _ _ _)
   | (with_reducible exact ih2 _ _ _)
   | (with_reducible exact ih3 _ _ _ _ _)
   | (with_reducible exact ih4 _)
   | (with_reducible exact LeO.refl _)
   | (with_reducible exact LeO.none _)
   | (with_reducible refine LeO.ite ?_ ?_)
   | (with_reducible refine LeO.bind ?_ (fun _=>?_))
   | exact ih0 _ _ _
   | exact ih1 _ _ _ _
   | exact ih2 _ _ _
   | exact ih3 _ _ _ _ _
   | exact ih4 _
   | exact LeO.none _
   | refine LeO.ite ?_ ?_
   | refine LeO.bind ?_ (fun _=>?_)
  ·
   intro y0
   unfold rotulusref22_Put.l4
   repeat' first
   | (with_reducible exact ih0 _ _ _)
   | (with_reducible exact ih1 _ _ _ _)
   | (with_reducible exact ih2 _ _ _)
   | (with_reducible exact ih3 _ _ _ _ _)
   | (with_reducible exact ih4 _)
   | (with_reducible exact LeO.refl _)
   | (with_reducible exact LeO.none _)
   | (with_reducible refine LeO.ite ?_ ?_)
   | (with_reducible refine LeO.bind ?_ (fun _=>?_))
   | exact ih0 _ _ _
   | exact ih1 _ _ _ _
   | exact ih2 _ _ _
   | exact ih3 _ _ _ _ _
   | exact ih4 _
   | exact LeO.none _
   | refine LeO.ite ?_ ?_
   | refine LeO.bind ?_ (fun _=>?_)
theorem rotulusref22_Put.mono:∀ a0 k,LeO (rotulusref22_Put.f k a0) (rotulusref22_Put.f (k+1) a0):=by
 intro a0 k
 obtain⟨ih0,ih1,ih2,ih3,ih4⟩:=rotulusref22_Put.mono_l k
 unfold rotulusref22_Put.f
 repeat' first
   | (with_reducible exact ih0 _ _ _)
   | (with_reducible exact ih1 _ _ _ _)
   | (with_reducible exact ih2 _ _ _)
   | (with_reducible exact ih3 _ _ _ _ _)
   | (with_reducible exact ih4 _)
   | (with_reducible exact LeO.refl _)
   | (with_reducible exact LeO.none _)
   | (with_reducible refine LeO.ite ?_ ?_)
   | (with_reducible refine LeO.bind ?_ (fun _=>?_))
   | exact ih0 _ _ _
   | exact ih1 _ _ _ _
   | exact ih2 _ _ _
   | exact ih3 _ _ _ _ _
   | exact ih4 _
   | exact LeO.none _
   | refine LeO.ite ?_ ?_
   | refine LeO.bind ?_ (fun _=>?_)
set_option maxHeartbeats 8000000 in
set_option maxRecDepth 100000 in
theorem rotulusref22_Put.calls (k:Nat) (a0:ByteArray) (r:ByteArray) (w:World) (h:rotulusref22_Put.f k a0=some r) :
  Calls Tryz.prog 44 #[.string a0] w fun e w'=>e=.returned (.string r)∧Below w.heap.size w w':=by
 have HB:=Aside0.mk (Below.refl w.heap.size w)
 have H:(rotulusref22_Put.l0 k a0 ([]:List Int) 0)=some r:=h
 clear h
 have H':=Aside0.mk H
 clear H
 go_enter Tryz.func44,Tryz.ntmps44
 go_wp2
 go_loopg [3,4] k (fun kq v3 v4 w'=>∃ (x3_1:List Int) (x4_1:Int),v4=.int .i64 x4_1∧Aside0 (rotulusref22_Put.l0 kq a0 x3_1 x4_1=some r)∧Aside0 (kq≤k)∧Aside0 (Kd.R (Kd.int .i64) 3 w' w.heap.size (fun _=>True) v3 x3_1)∧Aside0 (Below w.heap.size w w'))
 case atStart=>exact⟨(([]:List Int)),(0),(by first | rfl | (simp;done) | (simp [*];done)),H',⟨Nat.le_refl _⟩,⟨by first | exact Kd.R_nil _ _ _ _ _ | exact Kd.N_nil _ _ _ _ _ | exact Kd.V_nil _ _ _ _ _ | exact Kd.Q_nil _ _ _ _ _ | exact Kd.S_nil _ _ _ _ _⟩,⟨by repeat (first | (with_reducible first | exact HB.out | apply below_alloc | apply pw_below_drewN | apply below_drew1) | exact HB.out)⟩⟩
 case round =>
  clear H'
  obtain⟨x3_1,x4_1,rfl,HA,HK1,HO_3,HB⟩:=hrel
  cases gk with
  | zero=>exact absurd HA.out (by simp [rotulusref22_Put.l0])
  | succ k1 =>
   have H:=HA.out
   clear HA
   simp only [rotulusref22_Put.l0]at H
   by_cases c2:x4_1<(a0.size:Int)
   ·
    rw [if_pos c2]at H
    have c2b0:decide (x4_1<(a0.size:Int))=true:=decide_eq_true c2
    clear c2
    have H':=Aside0.mk H
    clear H
    go_wp2
    go_loopg [3,5] k1 (fun kq v3 v5 w'=>∃ (x3_2:List Int) (x5_2:Int),v5=.int .i64 x5_2∧Aside0 (rotulusref22_Put.l1 kq a0 x3_2 x4_1 x5_2=some r)∧Aside0 (kq≤k1)∧Aside0 (Kd.R (Kd.int .i64) 3 w' w.heap.size (fun _=>True) v3 x3_2)∧Aside0 (Below w.heap.size w w'))
    case atStart=>exact⟨(x3_1),(128),(by first | rfl | (simp;done) | (simp [*];done)),H',⟨Nat.le_refl _⟩,⟨by(with_reducible repeat (first | apply Kd.R_alloc | apply Kd.R_drewN | apply Kd.R_drew));exact HO_3.out⟩,⟨by repeat (first | (with_reducible first | exact HB.out | apply below_alloc | apply pw_below_drewN | apply below_drew1) | exact HB.out)⟩⟩
    case round =>
     clear H'
     try clear c2
     try clear c2b0
     try clear p2
     obtain⟨x3_2,x5_2,rfl,HA,HK2,HO_3,HB⟩:=hrel
     cases gk with
     | zero=>exact absurd HA.out (by simp [rotulusref22_Put.l1])
     | succ k2 =>
      have H:=HA.out
      clear HA
      simp only [rotulusref22_Put.l1]at H
      by_cases c3:x5_2>0
      ·
       rw [if_pos c3]at H
       have c3b0:decide (0<x5_2)=true:=decide_eq_true c3
       clear c3
       by_cases c4:0≤x4_1
       ·
        rw [if_pos c4]at H
        have c4b0:decide (0≤x4_1)=true:=decide_eq_true c4
        clear c4
        by_cases c5:x4_1<(a0.size:Int)
        ·
         rw [if_pos c5]at H
         have c5b0:decide (x4_1<(a0.size:Int))=true:=decide_eq_true c5
         clear c5
         by_cases c7:x5_2=0
         ·
          rw [if_pos c7]at H
          exact absurd H (by simp)
         ·
          rw [if_neg c7]at H
          have c7b0:(x5_2 == 0)=false:=beq_eq_false_iff_ne.mpr c7
          have c7b1:(x5_2 != 0)=true:=bne_iff_ne.mpr c7
          by_cases c8:x3_2.length<17592186044416
          ·
           rw [if_pos c8]at H
           have LMc8:=Aside0.mk c8
           clear c8
           obtain⟨y659,hy659⟩:∃ y_:List Int,y_=(x3_2++[Int.tmod (wrap64 (Int.tdiv (wrap64 (bt a0 x4_1)) x5_2)) 2]):=⟨_,rfl⟩
           replace H:(rotulusref22_Put.l1 k2 a0 y659 x4_1 (wrap64 (Int.tdiv x5_2 2)))=some r:=by first | (rw [hy659];with_reducible exact H) | (have H2_:=(Option.bind_some _ _).symm.trans H;rw [hy659];with_reducible exact H2_) | (have H2_:=(Option.bind_some _ _).symm.trans H;with_reducible exact H2_) | with_reducible exact H | (rw [hy659];exact H) | exact H
           have Ny659:=Aside0.mk hy659
           clear hy659
           have H':=Aside0.mk H
           clear H
           have p6:0≤(x4_1:Int):=of_decide_eq_true (by first | (with_reducible assumption) | assumption)
           have q6:x4_1<(a0.size:Int):=of_decide_eq_true (by first | (with_reducible assumption) | assumption)
           have hx6:=bt_at a0 x4_1
           replace p6:=eq_true p6
           replace q6:=eq_true q6
           go_wp2_with (first | ((with_reducible refine gate_builtin (b:=.append) (xs:=#[.tmp 20,.tmp 28]) rfl ?_);at_builtin;refine Kd.R_append (Kd.int .i64) (w0:=w) w.heap.size rfl (.tmp 20) (.tmp 28) 67 3 (.int .i64 0) 8 rfl Tryz.underlying67 info3 rfl (by decide) (by omega) u3 x3_2 (Int.tmod (wrap64 (Int.tdiv (wrap64 (bt a0 x4_1)) x5_2)) 2) [.int .i64 (Int.tmod (wrap64 (Int.tdiv (wrap64 (bt a0 x4_1)) x5_2)) 2)] (fun _=>True) (fun _=>False) rfl rfl ?aP (fun _ hk=>hk.elim) ?aF ?aO ?aB ?aS ?aL ?_;(case aP=>exact rfl);(case aB=>exact(by repeat (first | (with_reducible first | exact HB.out | apply below_alloc | apply pw_below_drewN | apply below_drew1) | exact HB.out)));(case aF=>exact(fun _ _=>trivial));(case aO=>exact(by(with_reducible repeat (first | apply Kd.R_alloc | apply Kd.R_drewN | apply Kd.R_drew));exact HO_3.out));(case aS=>exact(below_size (by repeat (first | (with_reducible first | exact HB.out | apply below_alloc | apply pw_below_drewN | apply below_drew1) | exact HB.out))));(case aL=>have:=LMc8.out;omega);intro v660 w9 ho hb hg hat;rw [← Ny659.out]at ho;have n0_:=Aside0.mk (hb);have n1_:=Aside0.mk (ho);clear HB;clear HO_3;have HB:=n0_;have HO661:=n1_;clear n0_ n1_;clear ho hb hg hat))
           go_roundg k2
           case measure=>have:=HK1.out;have:=HK2.out;omega
           case rel=>exact⟨(y659),(wrap64 (Int.tdiv x5_2 2)),(by first | rfl | (simp;done) | (simp [*];done)),H',⟨by have:=HK1.out;have:=HK2.out;omega⟩,⟨by(with_reducible repeat (first | apply Kd.R_alloc | apply Kd.R_drewN | apply Kd.R_drew));exact HO661.out⟩,⟨by repeat (first | (with_reducible first | exact HB.out | apply below_alloc | apply pw_below_drewN | apply below_drew1) | exact HB.out)⟩⟩
          ·
           rw [if_neg c8]at H
           exact absurd H (by simp)
        ·
         rw [if_neg c5]at H
         exact absurd H (by simp)
       ·
        rw [if_neg c4]at H
        exact absurd H (by simp)
      ·
       rw [if_neg c3]at H
       have c3b0:decide (0<x5_2)=false:=decide_eq_false c3
       clear c3
       have H':=Aside0.mk H
       clear H
       go_wp2
       go_roundg k2
       case measure=>have:=HK1.out;have:=HK2.out;omega
       case rel=>exact⟨(x3_2),(wrap64 (x4_1+1)),(by first | rfl | (simp;done) | (simp [*];done)),H',⟨by have:=HK1.out;have:=HK2.out;omega⟩,⟨by(with_reducible repeat (first | apply Kd.R_alloc | apply Kd.R_drewN | apply Kd.R_drew));exact HO_3.out⟩,⟨by repeat (first | (with_reducible first | exact HB.out | apply below_alloc | apply pw_below_drewN | apply below_drew1) | exact HB.out)⟩⟩
   ·
    rw [if_neg c2]at H
    have c2b0:decide (x4_1<(a0.size:Int))=false:=decide_eq_false c2
    clear c2
    have H':=Aside0.mk H
    clear H
    go_wp2
    go_loopg [6,7] k1 (fun kq v6 v7 w'=>∃ (x6_2:ByteArray) (x7_2:Int),v6=.string x6_2∧v7=.int .i64 x7_2∧Aside0 (rotulusref22_Put.l2 kq x3_1 x6_2 x7_2=some r)∧Aside0 (kq≤k1)∧Aside0 (Kd.R (Kd.int .i64) 3 w' w.heap.size (fun _=>True) u3 x3_1)∧Aside0 (Below w.heap.size w w'))
    case atStart=>exact⟨((⟨#[]⟩:ByteArray)),(0),(by first | rfl | (simp;done) | (simp [*];done)),(by first | rfl | (simp;done) | (simp [*];done)),H',⟨Nat.le_refl _⟩,⟨by(with_reducible repeat (first | apply Kd.R_alloc | apply Kd.R_drewN | apply Kd.R_drew));exact HO_3.out⟩,⟨by repeat (first | (with_reducible first | exact HB.out | apply below_alloc | apply pw_below_drewN | apply below_drew1) | exact HB.out)⟩⟩
    case round =>
     clear H'
     try clear c2
     try clear c2b0
     try clear p2
     try clear c3
     try clear c3b0
     try clear c4
     try clear c4b0
     try clear c5
     try clear c5b0
     try clear p6
     try clear q6
     try clear hx6
     try clear c7
     try clear c7b0
     try clear c7b1
     try clear c8
     try clear p2
     try clear p6
     try clear q6
     obtain⟨x6_2,x7_2,rfl,rfl,HA,HK2,HO_3,HB⟩:=hrel
     cases gk with
     | zero=>exact absurd HA.out (by simp [rotulusref22_Put.l2])
     | succ k2 =>
      have H:=HA.out
      clear HA
      simp only [rotulusref22_Put.l2]at H
      by_cases c10:x7_2<(x3_1.length:Int)
      ·
       rw [if_pos c10]at H
       have c10b0:decide (x7_2<(x3_1.length:Int))=true:=decide_eq_true c10
       clear c10
       have H':=Aside0.mk H
       clear H
       obtain⟨Ao11,co11,eo11⟩:=Kd.R_slice HO_3.out
       subst eo11
       go_wp2
       go_loopg [8,9] k2 (fun kq v8 v9 w'=>∃ (x8_3:Int) (x9_3:Int),v8=.int .i64 x8_3∧v9=.int .i64 x9_3∧Aside0 (rotulusref22_Put.l3 kq x3_1 x6_2 x7_2 x8_3 x9_3=some r)∧Aside0 (kq≤k2)∧Aside0 (Kd.R (Kd.int .i64) 3 w' w.heap.size (fun _=>True) (.slice Ao11 x3_1.length co11) x3_1)∧Aside0 (Below w.heap.size w w'))
       case atStart=>exact⟨(0),(x7_2),(by first | rfl | (simp;done) | (simp [*];done)),(by first | rfl | (simp;done) | (simp [*];done)),H',⟨Nat.le_refl _⟩,⟨by(with_reducible repeat (first | apply Kd.R_alloc | apply Kd.R_drewN | apply Kd.R_drew));exact HO_3.out⟩,⟨by repeat (first | (with_reducible first | exact HB.out | apply below_alloc | apply pw_below_drewN | apply below_drew1) | exact HB.out)⟩⟩
       case round =>
        clear H'
        try clear c1
        try clear c2
        try clear c2b0
        try clear p2
        try clear c3
        try clear c3b0
        try clear c4
        try clear c4b0
        try clear c5
        try clear c5b0
        try clear p6
        try clear q6
        try clear hx6
        try clear c7
        try clear c7b0
        try clear c7b1
        try clear c8
        try clear c10
        try clear c10b0
        try clear p2
        try clear p6
        try clear q6
        obtain⟨x8_3,x9_3,rfl,rfl,HA,HK3,HO_3,HB⟩:=hrel
        cases gk with
        | zero=>exact absurd HA.out (by simp [rotulusref22_Put.l3])
        | succ k3 =>
         have H:=HA.out
         clear HA
         simp only [rotulusref22_Put.l3]at H
         by_cases c12:x9_3<(wrap64 (x7_2+6))
         ·
          rw [if_pos c12]at H
          have c12b0:decide (x9_3<(wrap64 (x7_2+6)))=true:=decide_eq_true c12
          clear c12
          by_cases c13:x9_3<(x3_1.length:Int)
          ·
           rw [if_pos c13]at H
           have c13b0:decide (x9_3<(x3_1.length:Int))=true:=decide_eq_true c13
           clear c13
           by_cases c14:0≤x9_3
           ·
            rw [if_pos c14]at H
            have c14b0:decide (0≤x9_3)=true:=decide_eq_true c14
            clear c14
            have H':=Aside0.mk H
            clear H
            have p662:0≤(x9_3:Int):=of_decide_eq_true (by first | (with_reducible assumption) | assumption)
            have q662:x9_3<(x3_1.length:Int):=of_decide_eq_true (by first | (with_reducible assumption) | assumption)
            obtain⟨ad662,e662,hx662_0⟩:=Kd.at_int (Kd.R_reads' HO_3.out).2.2 x9_3 p662 q662
            cases e662
            replace p662:=eq_true p662
            replace q662:=eq_true q662
            go_wp2
            go_roundg k3
            case measure=>have:=HK1.out;have:=HK2.out;have:=HK3.out;omega
            case rel=>exact⟨(wrap64 ((wrap64 (x8_3*2))+(rd x3_1 x9_3))),(wrap64 (x9_3+1)),(by first | rfl | (simp;done) | (simp [*];done)),(by first | rfl | (simp;done) | (simp [*];done)),H',⟨by have:=HK1.out;have:=HK2.out;have:=HK3.out;omega⟩,⟨by(with_reducible repeat (first | apply Kd.R_alloc | apply Kd.R_drewN | apply Kd.R_drew));exact HO_3.out⟩,⟨by repeat (first | (with_reducible first | exact HB.out | apply below_alloc | apply pw_below_drewN | apply below_drew1) | exact HB.out)⟩⟩
           ·
            rw [if_neg c14]at H
            exact absurd H (by simp)
          ·
           rw [if_neg c13]at H
           have c13b0:decide (x9_3<(x3_1.length:Int))=false:=decide_eq_false c13
           clear c13
           have H':=Aside0.mk H
           clear H
           go_wp2
           go_roundg k3
           case measure=>have:=HK1.out;have:=HK2.out;have:=HK3.out;omega
           case rel=>exact⟨(wrap64 (x8_3*2)),(wrap64 (x9_3+1)),(by first | rfl | (simp;done) | (simp [*];done)),(by first | rfl | (simp;done) | (simp [*];done)),H',⟨by have:=HK1.out;have:=HK2.out;have:=HK3.out;omega⟩,⟨by(with_reducible repeat (first | apply Kd.R_alloc | apply Kd.R_drewN | apply Kd.R_drew));exact HO_3.out⟩,⟨by repeat (first | (with_reducible first | exact HB.out | apply below_alloc | apply pw_below_drewN | apply below_drew1) | exact HB.out)⟩⟩
         ·
          rw [if_neg c12]at H
          have c12b0:decide (x9_3<(wrap64 (x7_2+6)))=false:=decide_eq_false c12
          clear c12
          replace H:=Option.bind_eq_some_iff.mp H
          obtain⟨t663,A150,H⟩:=H
          replace H:(if 0≤x8_3 then(if x8_3≤(wrap64 (x8_3+1))then(if (wrap64 (x8_3+1))≤(t663.size:Int)then(if x6_2.size+(t663.extract (x8_3:Int).toNat ((wrap64 (x8_3+1)):Int).toNat).size≤9223372036854775807 then(rotulusref22_Put.l2 k3 x3_1 (x6_2++(t663.extract (x8_3:Int).toNat ((wrap64 (x8_3+1)):Int).toNat)) (wrap64 (x7_2+6)))else(none))else(none))else(none))else(none))=some r:=H
          have A15:=Aside0.mk A150
          clear A150
          by_cases c16:0≤x8_3
          ·
           rw [if_pos c16]at H
           have c16b0:=eq_true c16
           have c16b1:decide (0≤x8_3)=true:=decide_eq_true c16
           clear c16
           by_cases c17:x8_3≤(wrap64 (x8_3+1))
           ·
            rw [if_pos c17]at H
            have c17b0:=eq_true c17
            have c17b1:decide (x8_3≤(wrap64 (x8_3+1)))=true:=decide_eq_true c17
            by_cases c18:(wrap64 (x8_3+1))≤(t663.size:Int)
            ·
             rw [if_pos c18]at H
             have c18b0:=eq_true c18
             have c18b1:decide ((wrap64 (x8_3+1))≤(t663.size:Int))=true:=decide_eq_true c18
             by_cases c19:x6_2.size+(t663.extract (x8_3:Int).toNat ((wrap64 (x8_3+1)):Int).toNat).size≤9223372036854775807
             ·
              rw [if_pos c19]at H
              have c19b0:=eq_true c19
              have c19b1:decide (x6_2.size+(t663.extract (x8_3:Int).toNat ((wrap64 (x8_3+1)):Int).toNat).size≤9223372036854775807)=true:=decide_eq_true c19
              try have c19b2:(9223372036854775807<x6_2.size+(t663.extract (x8_3:Int).toNat ((wrap64 (x8_3+1)):Int).toNat).size)=False:=eq_false (Nat.not_lt.2 c19)
              have H':=Aside0.mk H
              clear H
              go_wp2_with (first | ((with_reducible refine gate_callee (f:=43) rfl ?_);refine goesL_ (some 56) rfl rfl Tryz.func43 (by kernel_rfl) rfl #[] rfl (by(try simp only [List.map_toArray,List.map_cons,List.map_nil]);first | done | rfl | (simp only [List.length_drop,List.length_take];rfl)) ?_;(with_reducible refine(rotulusref22_signs.calls  t663 _ A15.out).mono ?_);rintro e w' ⟨rfl,⟨nd,rfl⟩⟩;refine⟨_,rfl,?_⟩))
              go_roundg k3
              case measure=>have:=HK1.out;have:=HK2.out;have:=HK3.out;omega
              case rel=>exact⟨(x6_2++(t663.extract (x8_3:Int).toNat ((wrap64 (x8_3+1)):Int).toNat)),(wrap64 (x7_2+6)),(by first | rfl | (simp;done) | (simp [*];done)),(by first | rfl | (simp;done) | (simp [*];done)),H',⟨by have:=HK1.out;have:=HK2.out;have:=HK3.out;omega⟩,⟨by(with_reducible repeat (first | apply Kd.R_alloc | apply Kd.R_drewN | apply Kd.R_drew));exact HO_3.out⟩,⟨by repeat (first | (with_reducible first | exact HB.out | apply below_alloc | apply pw_below_drewN | apply below_drew1) | exact HB.out)⟩⟩
             ·
              rw [if_neg c19]at H
              exact absurd H (by simp)
            ·
             rw [if_neg c18]at H
             exact absurd H (by simp)
           ·
            rw [if_neg c17]at H
            exact absurd H (by simp)
          ·
           rw [if_neg c16]at H
           exact absurd H (by simp)
      ·
       rw [if_neg c10]at H
       have c10b0:decide (x7_2<(x3_1.length:Int))=false:=decide_eq_false c10
       clear c10
       have H':=Aside0.mk H
       clear H
       obtain⟨Ao20,co20,eo20⟩:=Kd.R_slice HO_3.out
       subst eo20
       go_wp2
       go_loopg [6] k2 (fun kq v6 w'=>∃ (x6_3:ByteArray),v6=.string x6_3∧Aside0 (rotulusref22_Put.l4 kq x6_3=some r)∧Aside0 (kq≤k2)∧Aside0 (Below w.heap.size w w'))
       case atStart=>exact⟨(x6_2),(by first | rfl | (simp;done) | (simp [*];done)),H',⟨Nat.le_refl _⟩,⟨by repeat (first | (with_reducible first | exact HB.out | apply below_alloc | apply pw_below_drewN | apply below_drew1) | exact HB.out)⟩⟩
       case round =>
        clear H'
        try clear c1
        try clear c2
        try clear c2b0
        try clear p2
        try clear c3
        try clear c3b0
        try clear c4
        try clear c4b0
        try clear c5
        try clear c5b0
        try clear p6
        try clear q6
        try clear hx6
        try clear c7
        try clear c7b0
        try clear c7b1
        try clear c8
        try clear c10
        try clear c10b0
        try clear c12
        try clear c12b0
        try clear c13
        try clear c13b0
        try clear c14
        try clear c14b0
        try clear c16
        try clear c16b0
        try clear c16b1
        try clear c17
        try clear c17b0
        try clear c17b1
        try clear c18
        try clear c18b0
        try clear c18b1
        try clear c19
        try clear c19b0
        try clear c19b1
        try clear c19b2
        try clear hx662_0
        try clear p2
        try clear p6
        try clear p662
        try clear q6
        try clear q662
        obtain⟨x6_3,rfl,HA,HK3,HB⟩:=hrel
        cases gk with
        | zero=>exact absurd HA.out (by simp [rotulusref22_Put.l4])
        | succ k3 =>
         have H:=HA.out
         clear HA
         simp only [rotulusref22_Put.l4]at H
         by_cases c21:((x6_3.size:Int) % 4)=0
         ·
          rw [if_pos c21]at H
          have c21b0:(((x6_3.size:Int) % 4) == 0)=true:=beq_iff_eq.mpr c21
          have c21b1:(((x6_3.size:Int) % 4) != 0)=false:=bne_eq_false_iff_eq.mpr c21
          clear c21
          obtain rfl:=Option.some.inj H
          go_wp2
          go_ret
          exact⟨by first | rfl | (simp [errW_none,errW_some]<;>rfl) | (simp [*,errW_none,errW_some]<;>rfl),by repeat (first | (with_reducible first | exact HB.out | apply below_alloc | apply pw_below_drewN | apply below_drew1) | exact HB.out)⟩
         ·
          rw [if_neg c21]at H
          have c21b0:(((x6_3.size:Int) % 4) == 0)=false:=beq_eq_false_iff_ne.mpr c21
          have c21b1:(((x6_3.size:Int) % 4) != 0)=true:=bne_iff_ne.mpr c21
          by_cases c22:x6_3.size+1≤9223372036854775807
          ·
           rw [if_pos c22]at H
           have c22b0:=eq_true c22
           have c22b1:decide (x6_3.size+1≤9223372036854775807)=true:=decide_eq_true c22
           try have c22b2:(9223372036854775807<x6_3.size+1)=False:=eq_false (Nat.not_lt.2 c22)
           have H':=Aside0.mk H
           clear H
           go_wp2
           go_roundg k3
           case measure=>have:=HK1.out;have:=HK2.out;have:=HK3.out;omega
           case rel=>exact⟨(x6_3++(⟨#[61]⟩:ByteArray)),(by first | rfl | (simp;done) | (simp [*];done)),H',⟨by have:=HK1.out;have:=HK2.out;have:=HK3.out;omega⟩,⟨by repeat (first | (with_reducible first | exact HB.out | apply below_alloc | apply pw_below_drewN | apply below_drew1) | exact HB.out)⟩⟩
          ·
           rw [if_neg c22]at H
           exact absurd H (by simp)
mutual
def rotulusref22_Get.l0:Nat→ByteArray→List Int→Int→Option (ByteArray×Bool)
 | 0,_,_,_=>none
 | k+1,x0,x4,x5=>if x5<(x0.size:Int)then(if 0≤x5 then(rotulusref22_Get.j1 k x0 x4 x5 ((bt x0 x5) != 61))else(none))else(rotulusref22_Get.j1 k x0 x4 x5 false)
def rotulusref22_Get.j1:Nat→ByteArray→List Int→Int→Bool→Option (ByteArray×Bool)
 | 0,_,_,_,_=>none
 | k+1,x0,x4,x5,x22=>if x22=true then(rotulusref22_Get.l1 k x0 x4 x5 (-1) 0)else(rotulusref22_Get.l3 k x0 x4 ([]:List Int) 0)
def rotulusref22_Get.l1:Nat→ByteArray→List Int→Int→Int→Int→Option (ByteArray×Bool)
 | 0,_,_,_,_,_=>none
 | k+1,x0,x4,x5,x6,x7=>if x7<64 then((rotulusref22_signs.f).bind fun t664=>(if 0≤x7 then(if x7<(t664.size:Int)then(if 0≤x5 then(if x5<(x0.size:Int)then(if (bt t664 x7)=(bt x0 x5)then(rotulusref22_Get.l1 k x0 x4 x5 x7 (wrap64 (x7+1)))else(rotulusref22_Get.l1 k x0 x4 x5 x6 (wrap64 (x7+1))))else(none))else(none))else(none))else(none)))else(if x6<0 then(some ((⟨#[]⟩:ByteArray),false))else(rotulusref22_Get.l2 k x0 x4 x5 x6 32))
def rotulusref22_Get.l2:Nat→ByteArray→List Int→Int→Int→Int→Option (ByteArray×Bool)
 | 0,_,_,_,_,_=>none
 | k+1,x0,x4,x5,x6,x8=>if x8>0 then(if x8=0 then(none)else(if x4.length<17592186044416 then(rotulusref22_Get.l2 k x0 (x4++[Int.tmod (wrap64 (Int.tdiv x6 x8)) 2]) x5 x6 (wrap64 (Int.tdiv x8 2)))else(none)))else(rotulusref22_Get.l0 k x0 x4 (wrap64 (x5+1)))
def rotulusref22_Get.l3:Nat→ByteArray→List Int→List Int→Int→Option (ByteArray×Bool)
 | 0,_,_,_,_=>none
 | k+1,x0,x4,x9,x10=>if (wrap64 (x10+8))≤(x4.length:Int)then(rotulusref22_Get.l4 k x0 x4 x9 x10 0 x10)else((rotulusref22_Put.f k (strOfNums x9)).bind fun t668=>(if t668.toList=x0.toList then(some (strOfNums x9,true))else(some ((⟨#[]⟩:ByteArray),false))))
def rotulusref22_Get.l4:Nat→ByteArray→List Int→List Int→Int→Int→Int→Option (ByteArray×Bool)
 | 0,_,_,_,_,_,_=>none
 | k+1,x0,x4,x9,x10,x11,x12=>if x12<(wrap64 (x10+8))then(if 0≤x12 then(if x12<(x4.length:Int)then(rotulusref22_Get.l4 k x0 x4 x9 x10 (wrap64 ((wrap64 (x11*2))+(rd x4 x12))) (wrap64 (x12+1)))else(none))else(none))else(if x9.length<140737488355328 then(rotulusref22_Get.l3 k x0 x4 (x9++[(x11) % 256]) (wrap64 (x10+8)))else(none))
end
def rotulusref22_Get.f (k:Nat) (a0:ByteArray):Option (ByteArray×Bool):=rotulusref22_Get.l0 k a0 ([]:List Int) 0
theorem rotulusref22_Get.mono_l:∀ k,(∀ y0 y1 y2,LeO (rotulusref22_Get.l0 k y0 y1 y2) (rotulusref22_Get.l0 (k+1) y0 y1 y2))∧(∀ y0 y1 y2 y3,LeO (rotulusref22_Get.j1 k y0 y1 y2 y3) (rotulusref22_Get.j1 (k+1) y0 y1 y2 y3))∧(∀ y0 y1 y2 y3 y4,LeO (rotulusref22_Get.l1 k y0 y1 y2 y3 y4) (rotulusref22_Get.l1 (k+1) y0 y1 y2 y3 y4))∧(∀ y0 y1 y2 y3 y4,LeO (rotulusref22_Get.l2 k y0 y1 y2 y3 y4) (rotulusref22_Get.l2 (k+1) y0 y1 y2 y3 y4))∧(∀ y0 y1 y2 y3,LeO (rotulusref22_Get.l3 k y0 y1 y2 y3) (rotulusref22_Get.l3 (k+1) y0 y1 y2 y3))∧(∀ y0 y1 y2 y3 y4 y5,LeO (rotulusref22_Get.l4 k y0 y1 y2 y3 y4 y5) (rotulusref22_Get.l4 (k+1) y0 y1 y2 y3 y4 y5))
 | 0=>⟨fun _ _ _ r h=>by simp [rotulusref22_Get.l0]at h,fun _ _ _ _ r h=>by simp [rotulusref22_Get.j1]at h,fun _ _ _ _ _ r h=>by simp [rotulusref22_Get.l1]at h,fun _ _ _ _ _ r h=>by simp [rotulusref22_Get.l2]at h,fun _ _ _ _ r h=>by simp [rotulusref22_Get.l3]at h,fun _ _ _ _ _ _ r h=>by simp [rotulusref22_Get.l4]at h⟩
 | k+1=>by
  obtain⟨ih0,ih1,ih2,ih3,ih4,ih5⟩:=rotulusref22_Get.mono_l k
  refine⟨?_,?_,?_,?_,?_,?_⟩
  ·
   intro y0 y1 y2
   unfold rotulusref22_Get.l0
   repeat' first
   | (with_reducible exact ih0 _ _ _)
   | (with_reducible exact ih1 _ _ _ _)
   | (with_reducible exact ih2 _ _ _ _ _)
   | (with_reducible exact ih3 _ _ _ _ _)
   | (with_reducible exact ih4 _ _ _ _)
   | (with_reducible exact ih5 _ _ _ _ _ _)
   | (with_reducible exact rotulusref22_Put.mono _ _)
   | (with_reducible exact LeO.refl _)
   | (with_reducible exact LeO.none _)
   | (with_reducible refine LeO.ite ?_ ?_)
   | (with_reducible refine LeO.bind ?_ (fun _=>?_))
   | exact ih0 _ _ _
   | exact ih1 _ _ _ _
   | exact ih2 _ _ _ _ _
   | exact ih3 _ _ _ _ _
   | exact ih4 _ _ _ _
   | exact ih5 _ _ _ _ _ _
   | exact rotulusref22_Put.mono _ _
   | exact LeO.none _
   | refine LeO.ite ?_ ?_
   | refine LeO.bind ?_ (fun _=>?_)
  ·
   intro y0 y1 y2 y3
   unfold rotulusref22_Get.j1
   repeat' first
   | (with_reducible exact ih0 _ _ _)
   | (with_reducible exact ih1 _ _ _ _)
   | (with_reducible exact ih2 _ _ _ _ _)
   | (with_reducible exact ih3 _ _ _ _ _)
   | (with_reducible exact ih4 _ _ _ _)
   | (with_reducible exact ih5 _ _ _ _ _ _)
   | (with_reducible exact rotulusref22_Put.mono _ _)
   | (with_reducible exact LeO.refl _)
   | (with_reducible exact LeO.none _)
   | (with_reducible refine LeO.ite ?_ ?_)
   | (with_reducible refine LeO.bind ?_ (fun _=>?_))
   | exact ih0 _ _ _
   | exact ih1 _ _ _ _
   | exact ih2 _ _ _ _ _
   | exact ih3 _ _ _ _ _
   | exact ih4 _ _ _ _
   | exact ih5 _ _ _ _ _ _
   | exact rotulusref22_Put.mono _ _
   | exact LeO.none _
   | refine LeO.ite ?_ ?_
   | refine LeO.bind ?_ (fun _=>?_)
  ·
   intro y0 y1 y2 y3 y4
   unfold rotulusref22_Get.l1
   repeat' first
   | (with_reducible exact ih0 _ _ _)
   | (with_reducible exact ih1 _ _ _ _)
   | (with_reducible exact ih2 _ _ _ _ _)
   | (with_reducible exact ih3 _ _ _ _ _)
   | (with_reducible exact ih4 _ _ _ _)
   | (with_reducible exact ih5 _ _ _ _ _ _)
   | (with_reducible exact rotulusref22_Put.mono _ _)
   | (with_reducible exact LeO.refl _)
   | (with_reducible exact LeO.none _)
   | (with_reducible refine LeO.ite ?_ ?_)
   | (with_reducible refine LeO.bind ?_ (fun _=>?_))
   | exact ih0 _ _ _
   | exact ih1 _ _ _ _
   | exact ih2 _ _ _ _ _
   | exact ih3 _ _ _ _ _
   | exact ih4 _ _ _ _
   | exact ih5 _ _ _ _ _ _
   | exact rotulusref22_Put.mono _ _
   | exact LeO.none _
   | refine LeO.ite ?_ ?_
   | refine LeO.bind ?_ (fun _=>?_)
  ·
   intro y0 y1 y2 y3 y4
   unfold rotulusref22_Get.l2
   repeat' first
   | (with_reducible exact ih0 _ _ _)
   | (with_reducible exact ih1 _ _ _ _)
   | (with_reducible exact ih2 _ _ _ _ _)
   | (with_reducible exact ih3 _ _ _ _ _)
   | (with_reducible exact ih4 _ _ _ _)
   | (with_reducible exact ih5 _ _ _ _ _ _)
   | (with_reducible exact rotulusref22_Put.mono _ _)
   | (with_reducible exact LeO.refl _)
   | (with_reducible exact LeO.none _)
   | (with_reducible refine LeO.ite ?_ ?_)
   | (with_reducible refine LeO.bind ?_ (fun _=>?_))
   | exact ih0 _ _ _
   | exact ih1 _ _ _ _
   | exact ih2 _ _ _ _ _
   | exact ih3 _ _ _ _ _
   | exact ih4 _ _ _ _
   | exact ih5 _ _ _ _ _ _
   | exact rotulusref22_Put.mono _ _
   | exact LeO.none _
   | refine LeO.ite ?_ ?_
   | refine LeO.bind ?_ (fun _=>?_)
  ·
   intro y0 y1 y2 y3
   unfold rotulusref22_Get.l3
   repeat' first
   | (with_reducible exact ih0 _ _ _)
   | (with_reducible exact ih1 _ _ _ _)
   | (with_reducible exact ih2 _ _ _ _ _)
   | (with_reducible exact ih3 _ _ _ _ _)
   | (with_reducible exact ih4 _ _ _ _)
   | (with_reducible exact ih5 _ _ _ _ _ _)
   | (with_reducible exact rotulusref22_Put.mono _ _)
   | (with_reducible exact LeO.refl _)
   | (with_reducible exact LeO.none _)
   | (with_reducible refine LeO.ite ?_ ?_)
   | (with_reducible refine LeO.bind ?_ (fun _=>?_))
   | exact ih0 _ _ _
   | exact ih1 _ _ _ _
   | exact ih2 _ _ _ _ _
   | exact ih3 _ _ _ _ _
   | exact ih4 _ _ _ _
   | exact ih5 _ _ _ _ _ _
   | exact rotulusref22_Put.mono _ _
   | exact LeO.none _
   | refine LeO.ite ?_ ?_
   | refine LeO.bind ?_ (fun _=>?_)
  ·
   intro y0 y1 y2 y3 y4 y5
   unfold rotulusref22_Get.l4
   repeat' first
   | (with_reducible exact ih0 _ _ _)
   | (with_reducible exact ih1 _ _ _ _)
   | (with_reducible exact ih2 _ _ _ _ _)
   | (with_reducible exact ih3 _ _ _ _ _)
   | (with_reducible exact ih4 _ _ _ _)
   | (with_reducible exact ih5 _ _ _ _ _ _)
   | (with_reducible exact rotulusref22_Put.mono _ _)
   | (with_reducible exact LeO.refl _)
   | (with_reducible exact LeO.none _)
   | (with_reducible refine LeO.ite ?_ ?_)
   | (with_reducible refine LeO.bind ?_ (fun _=>?_))
   | exact ih0 _ _ _
   | exact ih1 _ _ _ _
   | exact ih2 _ _ _ _ _
   | exact ih3 _ _ _ _ _
   | exact ih4 _ _ _ _
   | exact ih5 _ _ _ _ _ _
   | exact rotulusref22_Put.mono _ _
   | exact LeO.none _
   | refine LeO.ite ?_ ?_
   | refine LeO.bind ?_ (fun _=>?_)
theorem rotulusref22_Get.mono:∀ a0 k,LeO (rotulusref22_Get.f k a0) (rotulusref22_Get.f (k+1) a0):=by
 intro a0 k
 obtain⟨ih0,ih1,ih2,ih3,ih4,ih5⟩:=rotulusref22_Get.mono_l k
 unfold rotulusref22_Get.f
 repeat' first
   | (with_reducible exact ih0 _ _ _)
   | (with_reducible exact ih1 _ _ _ _)
   | (with_reducible exact ih2 _ _ _ _ _)
   | (with_reducible exact ih3 _ _ _ _ _)
   | (with_reducible exact ih4 _ _ _ _)
   | (with_reducible exact ih5 _ _ _ _ _ _)
   | (with_reducible exact rotulusref22_Put.mono _ _)
   | (with_reducible exact LeO.refl _)
   | (with_reducible exact LeO.none _)
   | (with_reducible refine LeO.ite ?_ ?_)
   | (with_reducible refine LeO.bind ?_ (fun _=>?_))
   | exact ih0 _ _ _
   | exact ih1 _ _ _ _
   | exact ih2 _ _ _ _ _
   | exact ih3 _ _ _ _ _
   | exact ih4 _ _ _ _
   | exact ih5 _ _ _ _ _ _
   | exact rotulusref22_Put.mono _ _
   | exact LeO.none _
   | refine LeO.ite ?_ ?_
   | refine LeO.bind ?_ (fun _=>?_)
set_option maxHeartbeats 8000000 in
set_option maxRecDepth 100000 in
theorem rotulusref22_Get.calls (k:Nat) (a0:ByteArray) (r1:ByteArray) (r2:Bool) (w:World) (h:rotulusref22_Get.f k a0=some (r1,r2)) :
  Calls Tryz.prog 22 #[.string a0] w fun e w'=>e=.returned (.tuple #[.string r1,.bool r2])∧Below w.heap.size w w':=by
 have HB:=Aside0.mk (Below.refl w.heap.size w)
 have H:(rotulusref22_Get.l0 k a0 ([]:List Int) 0)=some (r1,r2):=h
 clear h
 have H':=Aside0.mk H
 clear H
 go_enter Tryz.func22,Tryz.ntmps22
 go_wp2
 repeat (go_quiet (fail);try go_wp2)
 go_loopg [4,5] k (fun kq v4 v5 w'=>∃ (x4_1:List Int) (x5_1:Int),v5=.int .i64 x5_1∧Aside0 (rotulusref22_Get.l0 kq a0 x4_1 x5_1=some (r1,r2))∧Aside0 (kq≤k)∧Aside0 (Kd.R (Kd.int .i64) 3 w' w.heap.size (fun _=>True) v4 x4_1)∧Aside0 (Below w.heap.size w w'))
 case atStart=>exact⟨(([]:List Int)),(0),(by first | rfl | (simp;done) | (simp [*];done)),H',⟨Nat.le_refl _⟩,⟨by first | exact Kd.R_nil _ _ _ _ _ | exact Kd.N_nil _ _ _ _ _ | exact Kd.V_nil _ _ _ _ _ | exact Kd.Q_nil _ _ _ _ _ | exact Kd.S_nil _ _ _ _ _⟩,⟨by repeat (first | (with_reducible first | exact HB.out | apply below_alloc | apply pw_below_drewN | apply below_drew1) | exact HB.out)⟩⟩
 case round =>
  clear H'
  obtain⟨x4_1,x5_1,rfl,HA,HK1,HO_4,HB⟩:=hrel
  cases gk with
  | zero=>exact absurd HA.out (by simp [rotulusref22_Get.l0])
  | succ k1 =>
   have H:=HA.out
   clear HA
   simp only [rotulusref22_Get.l0]at H
   have HC2:=Aside0.mk H
   clear H
   go_upto_region 3 with(fail)
   repeat (go_quiet (fail);go_upto_region 3 with(fail))
   go_cut [22] (fun v22 wc=>∃ (kq:Nat) (x22_1:Bool),v22=.bool x22_1∧Aside0 (rotulusref22_Get.j1 kq a0 x4_1 x5_1 x22_1=some (r1,r2))∧Aside0 (kq≤k1)∧Aside0 (Kd.R (Kd.int .i64) 3 wc w.heap.size (fun _=>True) u4 x4_1)∧Aside0 (Below w.heap.size w wc))
   case first =>
    have H:=HC2.out
    clear HC2
    by_cases c3:x5_1<(a0.size:Int)
    ·
     rw [if_pos c3]at H
     have c3b0:decide (x5_1<(a0.size:Int))=true:=decide_eq_true c3
     clear c3
     (first | rw [c3b0] | (simp only [i64_w,i32_w];rw [c3b0]) | skip)
     by_cases c4:0≤x5_1
     ·
      rw [if_pos c4]at H
      have c4b0:decide (0≤x5_1)=true:=decide_eq_true c4
      clear c4
      have H':=Aside0.mk H
      clear H
      have p5:0≤(x5_1:Int):=of_decide_eq_true (by first | (with_reducible assumption) | assumption)
      have q5:x5_1<(a0.size:Int):=of_decide_eq_true (by first | (with_reducible assumption) | assumption)
      have hx5:=bt_at a0 x5_1
      replace p5:=eq_true p5
      replace q5:=eq_true q5
      go_wp2
      repeat (go_quiet (fail);try go_wp2)
      go_meet
      case rel=>exact⟨_,(((bt a0 x5_1) != 61)),(by first | rfl | (simp;done) | (simp [*];done)),H',⟨by have:=HK1.out;first | omega | exact Nat.le_refl _⟩,⟨by(with_reducible repeat (first | apply Kd.R_alloc | apply Kd.R_drewN | apply Kd.R_drew));exact HO_4.out⟩,⟨by repeat (first | (with_reducible first | exact HB.out | apply below_alloc | apply pw_below_drewN | apply below_drew1) | exact HB.out)⟩⟩
     ·
      rw [if_neg c4]at H
      exact absurd H (by simp)
    ·
     rw [if_neg c3]at H
     have c3b0:decide (x5_1<(a0.size:Int))=false:=decide_eq_false c3
     clear c3
     (first | rw [c3b0] | (simp only [i64_w,i32_w];rw [c3b0]) | skip)
     have H':=Aside0.mk H
     clear H
     go_wp2
     repeat (go_quiet (fail);try go_wp2)
     go_meet
     case rel=>exact⟨_,(false),(by first | rfl | (simp;done) | (simp [*];done)),H',⟨by have:=HK1.out;first | omega | exact Nat.le_refl _⟩,⟨by(with_reducible repeat (first | apply Kd.R_alloc | apply Kd.R_drewN | apply Kd.R_drew));exact HO_4.out⟩,⟨by repeat (first | (with_reducible first | exact HB.out | apply below_alloc | apply pw_below_drewN | apply below_drew1) | exact HB.out)⟩⟩
   case rest =>
    clear HC2
    try clear c2
    try clear p2
    try clear c3
    try clear c3b0
    try clear c4
    try clear c4b0
    try clear p5
    try clear q5
    try clear hx5
    try clear p5
    try clear q5
    obtain⟨kq,x22_1,rfl,HA,HJ1,HO_4,HB⟩:=hcut
    cases kq with
    | zero=>exact absurd HA.out (by simp [rotulusref22_Get.j1])
    | succ kj1 =>
     have H:=HA.out
     clear HA
     simp only [rotulusref22_Get.j1]at H
     by_cases c6:x22_1=true
     ·
      subst c6
      have H1:(rotulusref22_Get.l1 kj1 a0 x4_1 x5_1 (-1) 0)=some (r1,r2):=by rw [if_pos rfl]at H;exact H
      clear H
      have H:=H1
      clear H1
      have H':=Aside0.mk H
      clear H
      go_wp2
      repeat (go_quiet (fail);try go_wp2)
      go_loopg [6,7] kj1 (fun kq v6 v7 w'=>∃ (x6_3:Int) (x7_3:Int),v6=.int .i64 x6_3∧v7=.int .i64 x7_3∧Aside0 (rotulusref22_Get.l1 kq a0 x4_1 x5_1 x6_3 x7_3=some (r1,r2))∧Aside0 (kq≤kj1)∧Aside0 (Kd.R (Kd.int .i64) 3 w' w.heap.size (fun _=>True) u4 x4_1)∧Aside0 (Below w.heap.size w w'))
      case atStart=>exact⟨((-1)),(0),(by first | rfl | (simp;done) | (simp [*];done)),(by first | rfl | (simp;done) | (simp [*];done)),H',⟨Nat.le_refl _⟩,⟨by(with_reducible repeat (first | apply Kd.R_alloc | apply Kd.R_drewN | apply Kd.R_drew));exact HO_4.out⟩,⟨by repeat (first | (with_reducible first | exact HB.out | apply below_alloc | apply pw_below_drewN | apply below_drew1) | exact HB.out)⟩⟩
      case round =>
       clear H'
       try clear c2
       try clear p2
       try clear c3
       try clear c3b0
       try clear c4
       try clear c4b0
       try clear p5
       try clear q5
       try clear hx5
       try clear c6
       try clear p2
       try clear p5
       try clear q5
       obtain⟨x6_3,x7_3,rfl,rfl,HA,HK3,HO_4,HB⟩:=hrel
       cases gk with
       | zero=>exact absurd HA.out (by simp [rotulusref22_Get.l1])
       | succ k3 =>
        have H:=HA.out
        clear HA
        simp only [rotulusref22_Get.l1]at H
        by_cases c7:x7_3<64
        ·
         rw [if_pos c7]at H
         have c7b0:decide (x7_3<64)=true:=decide_eq_true c7
         clear c7
         replace H:=Option.bind_eq_some_iff.mp H
         obtain⟨t664,A80,H⟩:=H
         replace H:(if 0≤x7_3 then(if x7_3<(t664.size:Int)then(if 0≤x5_1 then(if x5_1<(a0.size:Int)then(if (bt t664 x7_3)=(bt a0 x5_1)then(rotulusref22_Get.l1 k3 a0 x4_1 x5_1 x7_3 (wrap64 (x7_3+1)))else(rotulusref22_Get.l1 k3 a0 x4_1 x5_1 x6_3 (wrap64 (x7_3+1))))else(none))else(none))else(none))else(none))=some (r1,r2):=H
         have A8:=Aside0.mk A80
         clear A80
         by_cases c9:0≤x7_3
         ·
          rw [if_pos c9]at H
          have c9b0:decide (0≤x7_3)=true:=decide_eq_true c9
          clear c9
          by_cases c10:x7_3<(t664.size:Int)
          ·
           rw [if_pos c10]at H
           have c10b0:decide (x7_3<(t664.size:Int))=true:=decide_eq_true c10
           clear c10
           by_cases c12:0≤x5_1
           ·
            rw [if_pos c12]at H
            have c12b0:decide (0≤x5_1)=true:=decide_eq_true c12
            clear c12
            by_cases c13:x5_1<(a0.size:Int)
            ·
             rw [if_pos c13]at H
             have c13b0:decide (x5_1<(a0.size:Int))=true:=decide_eq_true c13
             clear c13
             by_cases c15:(bt t664 x7_3)=(bt a0 x5_1)
             ·
              rw [if_pos c15]at H
              have c15b0:((bt t664 x7_3) == (bt a0 x5_1))=true:=beq_iff_eq.mpr c15
              have c15b1:((bt t664 x7_3) != (bt a0 x5_1))=false:=bne_eq_false_iff_eq.mpr c15
              clear c15
              have H':=Aside0.mk H
              clear H
              go_wp2_with (first | (go_at_call 43;(with_reducible refine(rotulusref22_signs.calls  t664 _ A8.out).mono ?_);rintro e w' ⟨rfl,⟨nd,rfl⟩⟩;(try first | exact⟨rfl,_,World.drewN_drewN _ _ _⟩ | exact⟨rfl,_,Eq.trans (World.drewN_drewN _ _ _) (congrArg (World.drewN _) (Nat.add_assoc _ _ _))⟩);have p11:0≤(x7_3:Int):=of_decide_eq_true (by first | (with_reducible assumption) | assumption);have q11:x7_3<(t664.size:Int):=of_decide_eq_true (by first | (with_reducible assumption) | assumption);have hx11:=bt_at t664 x7_3;replace p11:=eq_true p11;replace q11:=eq_true q11;have p14:0≤(x5_1:Int):=of_decide_eq_true (by first | (with_reducible assumption) | assumption);have q14:x5_1<(a0.size:Int):=of_decide_eq_true (by first | (with_reducible assumption) | assumption);have hx14:=bt_at a0 x5_1;replace p14:=eq_true p14;replace q14:=eq_true q14))
              repeat (go_quiet (first | (go_at_call 43;(with_reducible refine(rotulusref22_signs.calls  t664 _ A8.out).mono ?_);rintro e w' ⟨rfl,⟨nd,rfl⟩⟩;(try first | exact⟨rfl,_,World.drewN_drewN _ _ _⟩ | exact⟨rfl,_,Eq.trans (World.drewN_drewN _ _ _) (congrArg (World.drewN _) (Nat.add_assoc _ _ _))⟩);have p11:0≤(x7_3:Int):=of_decide_eq_true (by first | (with_reducible assumption) | assumption);have q11:x7_3<(t664.size:Int):=of_decide_eq_true (by first | (with_reducible assumption) | assumption);have hx11:=bt_at t664 x7_3;replace p11:=eq_true p11;replace q11:=eq_true q11;have p14:0≤(x5_1:Int):=of_decide_eq_true (by first | (with_reducible assumption) | assumption);have q14:x5_1<(a0.size:Int):=of_decide_eq_true (by first | (with_reducible assumption) | assumption);have hx14:=bt_at a0 x5_1;replace p14:=eq_true p14;replace q14:=eq_true q14));try go_wp2_with (first | (go_at_call 43;(with_reducible refine(rotulusref22_signs.calls  t664 _ A8.out).mono ?_);rintro e w' ⟨rfl,⟨nd,rfl⟩⟩;(try first | exact⟨rfl,_,World.drewN_drewN _ _ _⟩ | exact⟨rfl,_,Eq.trans (World.drewN_drewN _ _ _) (congrArg (World.drewN _) (Nat.add_assoc _ _ _))⟩);have p11:0≤(x7_3:Int):=of_decide_eq_true (by first | (with_reducible assumption) | assumption);have q11:x7_3<(t664.size:Int):=of_decide_eq_true (by first | (with_reducible assumption) | assumption);have hx11:=bt_at t664 x7_3;replace p11:=eq_true p11;replace q11:=eq_true q11;have p14:0≤(x5_1:Int):=of_decide_eq_true (by first | (with_reducible assumption) | assumption);have q14:x5_1<(a0.size:Int):=of_decide_eq_true (by first | (with_reducible assumption) | assumption);have hx14:=bt_at a0 x5_1;replace p14:=eq_true p14;replace q14:=eq_true q14)))
              go_roundg k3
              case measure=>have:=HK1.out;have:=HJ1.out;have:=HK3.out;omega
              case rel=>exact⟨(x7_3),(wrap64 (x7_3+1)),(by first | rfl | (simp;done) | (simp [*];done)),(by first | rfl | (simp;done) | (simp [*];done)),H',⟨by have:=HK1.out;have:=HJ1.out;have:=HK3.out;omega⟩,⟨by(with_reducible repeat (first | apply Kd.R_alloc | apply Kd.R_drewN | apply Kd.R_drew));exact HO_4.out⟩,⟨by repeat (first | (with_reducible first | exact HB.out | apply below_alloc | apply pw_below_drewN | apply below_drew1) | exact HB.out)⟩⟩
             ·
              rw [if_neg c15]at H
              have c15b0:((bt t664 x7_3) == (bt a0 x5_1))=false:=beq_eq_false_iff_ne.mpr c15
              have c15b1:((bt t664 x7_3) != (bt a0 x5_1))=true:=bne_iff_ne.mpr c15
              have H':=Aside0.mk H
              clear H
              go_wp2_with (first | (go_at_call 43;(with_reducible refine(rotulusref22_signs.calls  t664 _ A8.out).mono ?_);rintro e w' ⟨rfl,⟨nd,rfl⟩⟩;(try first | exact⟨rfl,_,World.drewN_drewN _ _ _⟩ | exact⟨rfl,_,Eq.trans (World.drewN_drewN _ _ _) (congrArg (World.drewN _) (Nat.add_assoc _ _ _))⟩);have p11:0≤(x7_3:Int):=of_decide_eq_true (by first | (with_reducible assumption) | assumption);have q11:x7_3<(t664.size:Int):=of_decide_eq_true (by first | (with_reducible assumption) | assumption);have hx11:=bt_at t664 x7_3;replace p11:=eq_true p11;replace q11:=eq_true q11;have p14:0≤(x5_1:Int):=of_decide_eq_true (by first | (with_reducible assumption) | assumption);have q14:x5_1<(a0.size:Int):=of_decide_eq_true (by first | (with_reducible assumption) | assumption);have hx14:=bt_at a0 x5_1;replace p14:=eq_true p14;replace q14:=eq_true q14))
              repeat (go_quiet (first | (go_at_call 43;(with_reducible refine(rotulusref22_signs.calls  t664 _ A8.out).mono ?_);rintro e w' ⟨rfl,⟨nd,rfl⟩⟩;(try first | exact⟨rfl,_,World.drewN_drewN _ _ _⟩ | exact⟨rfl,_,Eq.trans (World.drewN_drewN _ _ _) (congrArg (World.drewN _) (Nat.add_assoc _ _ _))⟩);have p11:0≤(x7_3:Int):=of_decide_eq_true (by first | (with_reducible assumption) | assumption);have q11:x7_3<(t664.size:Int):=of_decide_eq_true (by first | (with_reducible assumption) | assumption);have hx11:=bt_at t664 x7_3;replace p11:=eq_true p11;replace q11:=eq_true q11;have p14:0≤(x5_1:Int):=of_decide_eq_true (by first | (with_reducible assumption) | assumption);have q14:x5_1<(a0.size:Int):=of_decide_eq_true (by first | (with_reducible assumption) | assumption);have hx14:=bt_at a0 x5_1;replace p14:=eq_true p14;replace q14:=eq_true q14));try go_wp2_with (first | (go_at_call 43;(with_reducible refine(rotulusref22_signs.calls  t664 _ A8.out).mono ?_);rintro e w' ⟨rfl,⟨nd,rfl⟩⟩;(try first | exact⟨rfl,_,World.drewN_drewN _ _ _⟩ | exact⟨rfl,_,Eq.trans (World.drewN_drewN _ _ _) (congrArg (World.drewN _) (Nat.add_assoc _ _ _))⟩);have p11:0≤(x7_3:Int):=of_decide_eq_true (by first | (with_reducible assumption) | assumption);have q11:x7_3<(t664.size:Int):=of_decide_eq_true (by first | (with_reducible assumption) | assumption);have hx11:=bt_at t664 x7_3;replace p11:=eq_true p11;replace q11:=eq_true q11;have p14:0≤(x5_1:Int):=of_decide_eq_true (by first | (with_reducible assumption) | assumption);have q14:x5_1<(a0.size:Int):=of_decide_eq_true (by first | (with_reducible assumption) | assumption);have hx14:=bt_at a0 x5_1;replace p14:=eq_true p14;replace q14:=eq_true q14)))
              go_roundg k3
              case measure=>have:=HK1.out;have:=HJ1.out;have:=HK3.out;omega
              case rel=>exact⟨(x6_3),(wrap64 (x7_3+1)),(by first | rfl | (simp;done) | (simp [*];done)),(by first | rfl | (simp;done) | (simp [*];done)),H',⟨by have:=HK1.out;have:=HJ1.out;have:=HK3.out;omega⟩,⟨by(with_reducible repeat (first | apply Kd.R_alloc | apply Kd.R_drewN | apply Kd.R_drew));exact HO_4.out⟩,⟨by repeat (first | (with_reducible first | exact HB.out | apply below_alloc | apply pw_below_drewN | apply below_drew1) | exact HB.out)⟩⟩
            ·
             rw [if_neg c13]at H
             exact absurd H (by simp)
           ·
            rw [if_neg c12]at H
            exact absurd H (by simp)
          ·
           rw [if_neg c10]at H
           exact absurd H (by simp)
         ·
          rw [if_neg c9]at H
          exact absurd H (by simp)
        ·
         rw [if_neg c7]at H
         have c7b0:decide (x7_3<64)=false:=decide_eq_false c7
         clear c7
         by_cases c16:x6_3<0
         ·
          rw [if_pos c16]at H
          have c16b0:decide (x6_3<0)=true:=decide_eq_true c16
          clear c16
          simp only [Option.some.injEq,Prod.mk.injEq]at H
          obtain⟨rfl,rfl⟩:=H
          go_wp2
          repeat (go_quiet (fail);try go_wp2)
          go_ret2
          exact⟨by first | rfl | (simp [errW_none,errW_some]<;>rfl) | (simp [*,errW_none,errW_some]<;>rfl),by repeat (first | (with_reducible first | exact HB.out | apply below_alloc | apply pw_below_drewN | apply below_drew1) | exact HB.out)⟩
         ·
          rw [if_neg c16]at H
          have c16b0:decide (x6_3<0)=false:=decide_eq_false c16
          clear c16
          have H':=Aside0.mk H
          clear H
          go_wp2
          repeat (go_quiet (fail);try go_wp2)
          go_loopg [4,8] k3 (fun kq v4 v8 w'=>∃ (x4_4:List Int) (x8_4:Int),v8=.int .i64 x8_4∧Aside0 (rotulusref22_Get.l2 kq a0 x4_4 x5_1 x6_3 x8_4=some (r1,r2))∧Aside0 (kq≤k3)∧Aside0 (Kd.R (Kd.int .i64) 3 w' w.heap.size (fun _=>True) v4 x4_4)∧Aside0 (Below w.heap.size w w'))
          case atStart=>exact⟨(x4_1),(32),(by first | rfl | (simp;done) | (simp [*];done)),H',⟨Nat.le_refl _⟩,⟨by(with_reducible repeat (first | apply Kd.R_alloc | apply Kd.R_drewN | apply Kd.R_drew));exact HO_4.out⟩,⟨by repeat (first | (with_reducible first | exact HB.out | apply below_alloc | apply pw_below_drewN | apply below_drew1) | exact HB.out)⟩⟩
          case round =>
           clear H'
           try clear c1
           try clear p1
           try clear q1
           try clear hx1
           try clear c2
           try clear p2
           try clear c3
           try clear c3b0
           try clear c4
           try clear c4b0
           try clear p5
           try clear q5
           try clear hx5
           try clear c6
           try clear p6
           try clear c7
           try clear c7b0
           try clear c9
           try clear c9b0
           try clear c10
           try clear c10b0
           try clear p11
           try clear q11
           try clear hx11
           try clear c12
           try clear c12b0
           try clear c13
           try clear c13b0
           try clear p14
           try clear q14
           try clear hx14
           try clear c15
           try clear c15b0
           try clear c15b1
           try clear c16
           try clear c16b0
           try clear p11
           try clear p14
           try clear p2
           try clear p5
           try clear q11
           try clear q14
           try clear q5
           obtain⟨x4_4,x8_4,rfl,HA,HK4,HO_4,HB⟩:=hrel
           cases gk with
           | zero=>exact absurd HA.out (by simp [rotulusref22_Get.l2])
           | succ k4 =>
            have H:=HA.out
            clear HA
            simp only [rotulusref22_Get.l2]at H
            by_cases c17:x8_4>0
            ·
             rw [if_pos c17]at H
             have c17b0:decide (0<x8_4)=true:=decide_eq_true c17
             clear c17
             by_cases c18:x8_4=0
             ·
              rw [if_pos c18]at H
              exact absurd H (by simp)
             ·
              rw [if_neg c18]at H
              have c18b0:(x8_4 == 0)=false:=beq_eq_false_iff_ne.mpr c18
              have c18b1:(x8_4 != 0)=true:=bne_iff_ne.mpr c18
              by_cases c19:x4_4.length<17592186044416
              ·
               rw [if_pos c19]at H
               have LMc19:=Aside0.mk c19
               clear c19
               obtain⟨y665,hy665⟩:∃ y_:List Int,y_=(x4_4++[Int.tmod (wrap64 (Int.tdiv x6_3 x8_4)) 2]):=⟨_,rfl⟩
               replace H:(rotulusref22_Get.l2 k4 a0 y665 x5_1 x6_3 (wrap64 (Int.tdiv x8_4 2)))=some (r1,r2):=by first | (rw [hy665];with_reducible exact H) | (have H2_:=(Option.bind_some _ _).symm.trans H;rw [hy665];with_reducible exact H2_) | (have H2_:=(Option.bind_some _ _).symm.trans H;with_reducible exact H2_) | with_reducible exact H | (rw [hy665];exact H) | exact H
               have Ny665:=Aside0.mk hy665
               clear hy665
               have H':=Aside0.mk H
               clear H
               go_wp2_with (first | ((with_reducible refine gate_builtin (b:=.append) (xs:=#[.tmp 43,.tmp 48]) rfl ?_);at_builtin;refine Kd.R_append (Kd.int .i64) (w0:=w) w.heap.size rfl (.tmp 43) (.tmp 48) 67 3 (.int .i64 0) 8 rfl Tryz.underlying67 info3 rfl (by decide) (by omega) u4 x4_4 (Int.tmod (wrap64 (Int.tdiv x6_3 x8_4)) 2) [.int .i64 (Int.tmod (wrap64 (Int.tdiv x6_3 x8_4)) 2)] (fun _=>True) (fun _=>False) rfl rfl ?aP (fun _ hk=>hk.elim) ?aF ?aO ?aB ?aS ?aL ?_;(case aP=>exact rfl);(case aB=>exact(by repeat (first | (with_reducible first | exact HB.out | apply below_alloc | apply pw_below_drewN | apply below_drew1) | exact HB.out)));(case aF=>exact(fun _ _=>trivial));(case aO=>exact(by(with_reducible repeat (first | apply Kd.R_alloc | apply Kd.R_drewN | apply Kd.R_drew));exact HO_4.out));(case aS=>exact(below_size (by repeat (first | (with_reducible first | exact HB.out | apply below_alloc | apply pw_below_drewN | apply below_drew1) | exact HB.out))));(case aL=>have:=LMc19.out;omega);intro v666 w20 ho hb hg hat;rw [← Ny665.out]at ho;have n0_:=Aside0.mk (hb);have n1_:=Aside0.mk (ho);clear HB;clear HO_4;have HB:=n0_;have HO667:=n1_;clear n0_ n1_;clear ho hb hg hat))
               repeat (go_quiet (first | ((with_reducible refine gate_builtin (b:=.append) (xs:=#[.tmp 43,.tmp 48]) rfl ?_);at_builtin;refine Kd.R_append (Kd.int .i64) (w0:=w) w.heap.size rfl (.tmp 43) (.tmp 48) 67 3 (.int .i64 0) 8 rfl Tryz.underlying67 info3 rfl (by decide) (by omega) u4 x4_4 (Int.tmod (wrap64 (Int.tdiv x6_3 x8_4)) 2) [.int .i64 (Int.tmod (wrap64 (Int.tdiv x6_3 x8_4)) 2)] (fun _=>True) (fun _=>False) rfl rfl ?aP (fun _ hk=>hk.elim) ?aF ?aO ?aB ?aS ?aL ?_;(case aP=>exact rfl);(case aB=>exact(by repeat (first | (with_reducible first | exact HB.out | apply below_alloc | apply pw_below_drewN | apply below_drew1) | exact HB.out)));(case aF=>exact(fun _ _=>trivial));(case aO=>exact(by(with_reducible repeat (first | apply Kd.R_alloc | apply Kd.R_drewN | apply Kd.R_drew));exact HO_4.out));(case aS=>exact(below_size (by repeat (first | (with_reducible first | exact HB.out | apply below_alloc | apply pw_below_drewN | apply below_drew1) | exact HB.out))));(case aL=>have:=LMc19.out;omega);intro v666 w20 ho hb hg hat;rw [← Ny665.out]at ho;have n0_:=Aside0.mk (hb);have n1_:=Aside0.mk (ho);clear HB;clear HO_4;have HB:=n0_;have HO667:=n1_;clear n0_ n1_;clear ho hb hg hat));try go_wp2_with (first | ((with_reducible refine gate_builtin (b:=.append) (xs:=#[.tmp 43,.tmp 48]) rfl ?_);at_builtin;refine Kd.R_append (Kd.int .i64) (w0:=w) w.heap.size rfl (.tmp 43) (.tmp 48) 67 3 (.int .i64 0) 8 rfl Tryz.underlying67 info3 rfl (by decide) (by omega) u4 x4_4 (Int.tmod (wrap64 (Int.tdiv x6_3 x8_4)) 2) [.int .i64 (Int.tmod (wrap64 (Int.tdiv x6_3 x8_4)) 2)] (fun _=>True) (fun _=>False) rfl rfl ?aP (fun _ hk=>hk.elim) ?aF ?aO ?aB ?aS ?aL ?_;(case aP=>exact rfl);(case aB=>exact(by repeat (first | (with_reducible first | exact HB.out | apply below_alloc | apply pw_below_drewN | apply below_drew1) | exact HB.out)));(case aF=>exact(fun _ _=>trivial));(case aO=>exact(by(with_reducible repeat (first | apply Kd.R_alloc | apply Kd.R_drewN | apply Kd.R_drew));exact HO_4.out));(case aS=>exact(below_size (by repeat (first | (with_reducible first | exact HB.out | apply below_alloc | apply pw_below_drewN | apply below_drew1) | exact HB.out))));(case aL=>have:=LMc19.out;omega);intro v666 w20 ho hb hg hat;rw [← Ny665.out]at ho;have n0_:=Aside0.mk (hb);have n1_:=Aside0.mk (ho);clear HB;clear HO_4;have HB:=n0_;have HO667:=n1_;clear n0_ n1_;clear ho hb hg hat)))
               go_roundg k4
               case measure=>have:=HK1.out;have:=HJ1.out;have:=HK3.out;have:=HK4.out;omega
               case rel=>exact⟨(y665),(wrap64 (Int.tdiv x8_4 2)),(by first | rfl | (simp;done) | (simp [*];done)),H',⟨by have:=HK1.out;have:=HJ1.out;have:=HK3.out;have:=HK4.out;omega⟩,⟨by(with_reducible repeat (first | apply Kd.R_alloc | apply Kd.R_drewN | apply Kd.R_drew));exact HO667.out⟩,⟨by repeat (first | (with_reducible first | exact HB.out | apply below_alloc | apply pw_below_drewN | apply below_drew1) | exact HB.out)⟩⟩
              ·
               rw [if_neg c19]at H
               exact absurd H (by simp)
            ·
             rw [if_neg c17]at H
             have c17b0:decide (0<x8_4)=false:=decide_eq_false c17
             clear c17
             have H':=Aside0.mk H
             clear H
             go_wp2
             repeat (go_quiet (fail);try go_wp2)
             go_roundg k4
             case measure=>have:=HK1.out;have:=HJ1.out;have:=HK3.out;have:=HK4.out;omega
             case rel=>exact⟨(x4_4),(wrap64 (x5_1+1)),(by first | rfl | (simp;done) | (simp [*];done)),H',⟨by have:=HK1.out;have:=HJ1.out;have:=HK3.out;have:=HK4.out;omega⟩,⟨by(with_reducible repeat (first | apply Kd.R_alloc | apply Kd.R_drewN | apply Kd.R_drew));exact HO_4.out⟩,⟨by repeat (first | (with_reducible first | exact HB.out | apply below_alloc | apply pw_below_drewN | apply below_drew1) | exact HB.out)⟩⟩
     ·
      replace c6:=Bool.eq_false_iff.mpr c6
      subst c6
      have H1:(rotulusref22_Get.l3 kj1 a0 x4_1 ([]:List Int) 0)=some (r1,r2):=by rw [if_neg (show ¬ (false=true)by decide)]at H;exact H
      clear H
      have H:=H1
      clear H1
      have H':=Aside0.mk H
      clear H
      go_wp2
      repeat (go_quiet (fail);try go_wp2)
      go_loopg [9,10] kj1 (fun kq v9 v10 w'=>∃ (x9_3:List Int) (x10_3:Int),v10=.int .i64 x10_3∧Aside0 (rotulusref22_Get.l3 kq a0 x4_1 x9_3 x10_3=some (r1,r2))∧Aside0 (kq≤kj1)∧Aside0 (Kd.R (Kd.int .i64) 3 w' w.heap.size (fun _=>True) u4 x4_1)∧Aside0 (Kd.R (Kd.int .u8) 5 w' w.heap.size (fun _=>True) v9 x9_3)∧Aside0 (Below w.heap.size w w'))
      case atStart=>exact⟨(([]:List Int)),(0),(by first | rfl | (simp;done) | (simp [*];done)),H',⟨Nat.le_refl _⟩,⟨by(with_reducible repeat (first | apply Kd.R_alloc | apply Kd.R_drewN | apply Kd.R_drew));exact HO_4.out⟩,⟨by first | exact Kd.R_nil _ _ _ _ _ | exact Kd.N_nil _ _ _ _ _ | exact Kd.V_nil _ _ _ _ _ | exact Kd.Q_nil _ _ _ _ _ | exact Kd.S_nil _ _ _ _ _⟩,⟨by repeat (first | (with_reducible first | exact HB.out | apply below_alloc | apply pw_below_drewN | apply below_drew1) | exact HB.out)⟩⟩
      case round =>
       clear H'
       try clear c1
       try clear p1
       try clear q1
       try clear hx1
       try clear c2
       try clear p2
       try clear c3
       try clear c3b0
       try clear c4
       try clear c4b0
       try clear p5
       try clear q5
       try clear hx5
       try clear c6
       try clear p6
       try clear c7
       try clear c7b0
       try clear c9
       try clear c9b0
       try clear c10
       try clear c10b0
       try clear p11
       try clear q11
       try clear hx11
       try clear c12
       try clear c12b0
       try clear c13
       try clear c13b0
       try clear p14
       try clear q14
       try clear hx14
       try clear c15
       try clear c15b0
       try clear c15b1
       try clear c16
       try clear c16b0
       try clear c17
       try clear c17b0
       try clear c18
       try clear c18b0
       try clear c18b1
       try clear c19
       try clear p1
       try clear p11
       try clear p14
       try clear p2
       try clear p5
       try clear p6
       try clear q1
       try clear q11
       try clear q14
       try clear q5
       obtain⟨x9_3,x10_3,rfl,HA,HK3,HO_4,HO_9,HB⟩:=hrel
       cases gk with
       | zero=>exact absurd HA.out (by simp [rotulusref22_Get.l3])
       | succ k3 =>
        have H:=HA.out
        clear HA
        simp only [rotulusref22_Get.l3]at H
        by_cases c21:(wrap64 (x10_3+8))≤(x4_1.length:Int)
        ·
         rw [if_pos c21]at H
         have c21b0:decide ((wrap64 (x10_3+8))≤(x4_1.length:Int))=true:=decide_eq_true c21
         clear c21
         have H':=Aside0.mk H
         clear H
         obtain⟨Ao22,co22,eo22⟩:=Kd.R_slice HO_4.out
         subst eo22
         go_wp2
         repeat (go_quiet (fail);try go_wp2)
         go_loopg [11,12] k3 (fun kq v11 v12 w'=>∃ (x11_4:Int) (x12_4:Int),v11=.int .i64 x11_4∧v12=.int .i64 x12_4∧Aside0 (rotulusref22_Get.l4 kq a0 x4_1 x9_3 x10_3 x11_4 x12_4=some (r1,r2))∧Aside0 (kq≤k3)∧Aside0 (Kd.R (Kd.int .i64) 3 w' w.heap.size (fun _=>True) (.slice Ao22 x4_1.length co22) x4_1)∧Aside0 (Kd.R (Kd.int .u8) 5 w' w.heap.size (fun _=>True) u9 x9_3)∧Aside0 (Below w.heap.size w w'))
         case atStart=>exact⟨(0),(x10_3),(by first | rfl | (simp;done) | (simp [*];done)),(by first | rfl | (simp;done) | (simp [*];done)),H',⟨Nat.le_refl _⟩,⟨by(with_reducible repeat (first | apply Kd.R_alloc | apply Kd.R_drewN | apply Kd.R_drew));exact HO_4.out⟩,⟨by(with_reducible repeat (first | apply Kd.R_alloc | apply Kd.R_drewN | apply Kd.R_drew));exact HO_9.out⟩,⟨by repeat (first | (with_reducible first | exact HB.out | apply below_alloc | apply pw_below_drewN | apply below_drew1) | exact HB.out)⟩⟩
         case round =>
          clear H'
          try clear c1
          try clear p1
          try clear q1
          try clear hx1
          try clear c2
          try clear p2
          try clear c3
          try clear c3b0
          try clear c4
          try clear c4b0
          try clear p5
          try clear q5
          try clear hx5
          try clear c6
          try clear p6
          try clear c7
          try clear c7b0
          try clear c9
          try clear c9b0
          try clear c10
          try clear c10b0
          try clear p11
          try clear q11
          try clear hx11
          try clear c12
          try clear c12b0
          try clear c13
          try clear c13b0
          try clear p14
          try clear q14
          try clear hx14
          try clear c15
          try clear c15b0
          try clear c15b1
          try clear c16
          try clear c16b0
          try clear c17
          try clear c17b0
          try clear c18
          try clear c18b0
          try clear c18b1
          try clear c19
          try clear c21
          try clear c21b0
          try clear c22
          try clear p1
          try clear p11
          try clear p14
          try clear p2
          try clear p5
          try clear p6
          try clear q1
          try clear q11
          try clear q14
          try clear q5
          obtain⟨x11_4,x12_4,rfl,rfl,HA,HK4,HO_4,HO_9,HB⟩:=hrel
          cases gk with
          | zero=>exact absurd HA.out (by simp [rotulusref22_Get.l4])
          | succ k4 =>
           have H:=HA.out
           clear HA
           simp only [rotulusref22_Get.l4]at H
           by_cases c23:x12_4<(wrap64 (x10_3+8))
           ·
            rw [if_pos c23]at H
            have c23b0:decide (x12_4<(wrap64 (x10_3+8)))=true:=decide_eq_true c23
            clear c23
            by_cases c24:0≤x12_4
            ·
             rw [if_pos c24]at H
             have c24b0:decide (0≤x12_4)=true:=decide_eq_true c24
             clear c24
             by_cases c25:x12_4<(x4_1.length:Int)
             ·
              rw [if_pos c25]at H
              have c25b0:decide (x12_4<(x4_1.length:Int))=true:=decide_eq_true c25
              clear c25
              have H':=Aside0.mk H
              clear H
              have p669:0≤(x12_4:Int):=of_decide_eq_true (by first | (with_reducible assumption) | assumption)
              have q669:x12_4<(x4_1.length:Int):=of_decide_eq_true (by first | (with_reducible assumption) | assumption)
              obtain⟨ad669,e669,hx669_0⟩:=Kd.at_int (Kd.R_reads' HO_4.out).2.2 x12_4 p669 q669
              cases e669
              replace p669:=eq_true p669
              replace q669:=eq_true q669
              go_wp2
              repeat (go_quiet (fail);try go_wp2)
              go_roundg k4
              case measure=>have:=HK1.out;have:=HJ1.out;have:=HK3.out;have:=HK4.out;omega
              case rel=>exact⟨(wrap64 ((wrap64 (x11_4*2))+(rd x4_1 x12_4))),(wrap64 (x12_4+1)),(by first | rfl | (simp;done) | (simp [*];done)),(by first | rfl | (simp;done) | (simp [*];done)),H',⟨by have:=HK1.out;have:=HJ1.out;have:=HK3.out;have:=HK4.out;omega⟩,⟨by(with_reducible repeat (first | apply Kd.R_alloc | apply Kd.R_drewN | apply Kd.R_drew));exact HO_4.out⟩,⟨by(with_reducible repeat (first | apply Kd.R_alloc | apply Kd.R_drewN | apply Kd.R_drew));exact HO_9.out⟩,⟨by repeat (first | (with_reducible first | exact HB.out | apply below_alloc | apply pw_below_drewN | apply below_drew1) | exact HB.out)⟩⟩
             ·
              rw [if_neg c25]at H
              exact absurd H (by simp)
            ·
             rw [if_neg c24]at H
             exact absurd H (by simp)
           ·
            rw [if_neg c23]at H
            have c23b0:decide (x12_4<(wrap64 (x10_3+8)))=false:=decide_eq_false c23
            clear c23
            by_cases c26:x9_3.length<140737488355328
            ·
             rw [if_pos c26]at H
             have LMc26:=Aside0.mk c26
             clear c26
             obtain⟨y670,hy670⟩:∃ y_:List Int,y_=(x9_3++[(x11_4) % 256]):=⟨_,rfl⟩
             replace H:(rotulusref22_Get.l3 k4 a0 x4_1 y670 (wrap64 (x10_3+8)))=some (r1,r2):=by first | (rw [hy670];with_reducible exact H) | (have H2_:=(Option.bind_some _ _).symm.trans H;rw [hy670];with_reducible exact H2_) | (have H2_:=(Option.bind_some _ _).symm.trans H;with_reducible exact H2_) | with_reducible exact H | (rw [hy670];exact H) | exact H
             have Ny670:=Aside0.mk hy670
             clear hy670
             have H':=Aside0.mk H
             clear H
             go_wp2_with (first | ((with_reducible refine gate_builtin (b:=.append) (xs:=#[.tmp 71,.tmp 74]) rfl ?_);at_builtin;refine Kd.R_append (Kd.int .u8) (w0:=w) w.heap.size rfl (.tmp 71) (.tmp 74) 66 5 (.int .u8 0) 1 rfl Tryz.underlying66 info5 rfl (by decide) (by omega) u9 x9_3 ((x11_4) % 256) [.int .u8 ((x11_4) % 256)] (fun _=>True) (fun _=>False) rfl rfl ?aP (fun _ hk=>hk.elim) ?aF ?aO ?aB ?aS ?aL ?_;(case aP=>exact rfl);(case aB=>exact(by repeat (first | (with_reducible first | exact HB.out | apply below_alloc | apply pw_below_drewN | apply below_drew1) | exact HB.out)));(case aF=>exact(fun _ _=>trivial));(case aO=>exact(by(with_reducible repeat (first | apply Kd.R_alloc | apply Kd.R_drewN | apply Kd.R_drew));exact HO_9.out));(case aS=>exact(below_size (by repeat (first | (with_reducible first | exact HB.out | apply below_alloc | apply pw_below_drewN | apply below_drew1) | exact HB.out))));(case aL=>have:=LMc26.out;omega);intro v671 w27 ho hb hg hat;rw [← Ny670.out]at ho;have n0_:=Aside0.mk (Kd.R_over' (by(with_reducible repeat (first | apply Kd.R_alloc | apply Kd.R_drewN | apply Kd.R_drew));exact HO_4.out) (Kd.R_typed (by(with_reducible repeat (first | apply Kd.R_alloc | apply Kd.R_drewN | apply Kd.R_drew));exact HO_9.out)) (by decide) hg);have n1_:=Aside0.mk (hb);have n2_:=Aside0.mk (ho);clear HO_4;clear HB;clear HO_9;have HO_4:=n0_;have HB:=n1_;have HO672:=n2_;clear n0_ n1_ n2_;clear ho hb hg hat))
             repeat (go_quiet (first | ((with_reducible refine gate_builtin (b:=.append) (xs:=#[.tmp 71,.tmp 74]) rfl ?_);at_builtin;refine Kd.R_append (Kd.int .u8) (w0:=w) w.heap.size rfl (.tmp 71) (.tmp 74) 66 5 (.int .u8 0) 1 rfl Tryz.underlying66 info5 rfl (by decide) (by omega) u9 x9_3 ((x11_4) % 256) [.int .u8 ((x11_4) % 256)] (fun _=>True) (fun _=>False) rfl rfl ?aP (fun _ hk=>hk.elim) ?aF ?aO ?aB ?aS ?aL ?_;(case aP=>exact rfl);(case aB=>exact(by repeat (first | (with_reducible first | exact HB.out | apply below_alloc | apply pw_below_drewN | apply below_drew1) | exact HB.out)));(case aF=>exact(fun _ _=>trivial));(case aO=>exact(by(with_reducible repeat (first | apply Kd.R_alloc | apply Kd.R_drewN | apply Kd.R_drew));exact HO_9.out));(case aS=>exact(below_size (by repeat (first | (with_reducible first | exact HB.out | apply below_alloc | apply pw_below_drewN | apply below_drew1) | exact HB.out))));(case aL=>have:=LMc26.out;omega);intro v671 w27 ho hb hg hat;rw [← Ny670.out]at ho;have n0_:=Aside0.mk (Kd.R_over' (by(with_reducible repeat (first | apply Kd.R_alloc | apply Kd.R_drewN | apply Kd.R_drew));exact HO_4.out) (Kd.R_typed (by(with_reducible repeat (first | apply Kd.R_alloc | apply Kd.R_drewN | apply Kd.R_drew));exact HO_9.out)) (by decide) hg);have n1_:=Aside0.mk (hb);have n2_:=Aside0.mk (ho);clear HO_4;clear HB;clear HO_9;have HO_4:=n0_;have HB:=n1_;have HO672:=n2_;clear n0_ n1_ n2_;clear ho hb hg hat));try go_wp2_with (first | ((with_reducible refine gate_builtin (b:=.append) (xs:=#[.tmp 71,.tmp 74]) rfl ?_);at_builtin;refine Kd.R_append (Kd.int .u8) (w0:=w) w.heap.size rfl (.tmp 71) (.tmp 74) 66 5 (.int .u8 0) 1 rfl Tryz.underlying66 info5 rfl (by decide) (by omega) u9 x9_3 ((x11_4) % 256) [.int .u8 ((x11_4) % 256)] (fun _=>True) (fun _=>False) rfl rfl ?aP (fun _ hk=>hk.elim) ?aF ?aO ?aB ?aS ?aL ?_;(case aP=>exact rfl);(case aB=>exact(by repeat (first | (with_reducible first | exact HB.out | apply below_alloc | apply pw_below_drewN | apply below_drew1) | exact HB.out)));(case aF=>exact(fun _ _=>trivial));(case aO=>exact(by(with_reducible repeat (first | apply Kd.R_alloc | apply Kd.R_drewN | apply Kd.R_drew));exact HO_9.out));(case aS=>exact(below_size (by repeat (first | (with_reducible first | exact HB.out | apply below_alloc | apply pw_below_drewN | apply below_drew1) | exact HB.out))));(case aL=>have:=LMc26.out;omega);intro v671 w27 ho hb hg hat;rw [← Ny670.out]at ho;have n0_:=Aside0.mk (Kd.R_over' (by(with_reducible repeat (first | apply Kd.R_alloc | apply Kd.R_drewN | apply Kd.R_drew));exact HO_4.out) (Kd.R_typed (by(with_reducible repeat (first | apply Kd.R_alloc | apply Kd.R_drewN | apply Kd.R_drew));exact HO_9.out)) (by decide) hg);have n1_:=Aside0.mk (hb);have n2_:=Aside0.mk (ho);clear HO_4;clear HB;clear HO_9;have HO_4:=n0_;have HB:=n1_;have HO672:=n2_;clear n0_ n1_ n2_;clear ho hb hg hat)))
             go_roundg k4
             case measure=>have:=HK1.out;have:=HJ1.out;have:=HK3.out;have:=HK4.out;omega
             case rel=>exact⟨(y670),(wrap64 (x10_3+8)),(by first | rfl | (simp;done) | (simp [*];done)),H',⟨by have:=HK1.out;have:=HJ1.out;have:=HK3.out;have:=HK4.out;omega⟩,⟨by(with_reducible repeat (first | apply Kd.R_alloc | apply Kd.R_drewN | apply Kd.R_drew));exact HO_4.out⟩,⟨by(with_reducible repeat (first | apply Kd.R_alloc | apply Kd.R_drewN | apply Kd.R_drew));exact HO672.out⟩,⟨by repeat (first | (with_reducible first | exact HB.out | apply below_alloc | apply pw_below_drewN | apply below_drew1) | exact HB.out)⟩⟩
            ·
             rw [if_neg c26]at H
             exact absurd H (by simp)
        ·
         rw [if_neg c21]at H
         have c21b0:decide ((wrap64 (x10_3+8))≤(x4_1.length:Int))=false:=decide_eq_false c21
         clear c21
         replace H:=Option.bind_eq_some_iff.mp H
         obtain⟨t668,A280,H⟩:=H
         replace H:(if t668.toList=a0.toList then(some (strOfNums x9_3,true))else(some ((⟨#[]⟩:ByteArray),false)))=some (r1,r2):=H
         have A28:=Aside0.mk A280
         clear A280
         by_cases c29:t668.toList=a0.toList
         ·
          rw [if_pos c29]at H
          have c29b0:(t668.toList == a0.toList)=true:=beq_iff_eq.mpr c29
          have c29b1:(t668.toList != a0.toList)=false:=bne_eq_false_iff_eq.mpr c29
          clear c29
          simp only [Option.some.injEq,Prod.mk.injEq]at H
          obtain⟨rfl,rfl⟩:=H
          obtain⟨Ao30,co30,eo30⟩:=Kd.R_slice HO_4.out
          subst eo30
          have hcv31:=own_string (P:=Tryz.prog) Tryz.underlying66 Tryz.underlying5 Tryz.underlying9 (Kd.own_of_R HO_9.out)
          go_wp2_with (first | (go_at_call 44;(with_reducible refine(rotulusref22_Put.calls k3 (strOfNums x9_3) t668 _ A28.out).mono ?_);rintro e w32 ⟨rfl,hb⟩;have n0_:=Aside0.mk (Kd.R_below (by(with_reducible repeat (first | apply Kd.R_alloc | apply Kd.R_drewN | apply Kd.R_drew));exact HO_4.out) hb);have n1_:=Aside0.mk (Kd.R_below (by(with_reducible repeat (first | apply Kd.R_alloc | apply Kd.R_drewN | apply Kd.R_drew));exact HO_9.out) hb);have n2_:=Aside0.mk (below_step (by repeat (first | (with_reducible first | exact HB.out | apply below_alloc | apply pw_below_drewN | apply below_drew1) | exact HB.out)) hb);clear HO_4;clear HO_9;clear HB;have HO_4:=n0_;have HO_9:=n1_;have HB:=n2_;clear n0_ n1_ n2_;(try clear hb);(try clear hb2);(try clear hk);(try clear hi);have hcv33:=own_string (P:=Tryz.prog) Tryz.underlying66 Tryz.underlying5 Tryz.underlying9 (Kd.own_of_R HO_9.out)))
          repeat (go_quiet (first | (go_at_call 44;(with_reducible refine(rotulusref22_Put.calls k3 (strOfNums x9_3) t668 _ A28.out).mono ?_);rintro e w32 ⟨rfl,hb⟩;have n0_:=Aside0.mk (Kd.R_below (by(with_reducible repeat (first | apply Kd.R_alloc | apply Kd.R_drewN | apply Kd.R_drew));exact HO_4.out) hb);have n1_:=Aside0.mk (Kd.R_below (by(with_reducible repeat (first | apply Kd.R_alloc | apply Kd.R_drewN | apply Kd.R_drew));exact HO_9.out) hb);have n2_:=Aside0.mk (below_step (by repeat (first | (with_reducible first | exact HB.out | apply below_alloc | apply pw_below_drewN | apply below_drew1) | exact HB.out)) hb);clear HO_4;clear HO_9;clear HB;have HO_4:=n0_;have HO_9:=n1_;have HB:=n2_;clear n0_ n1_ n2_;(try clear hb);(try clear hb2);(try clear hk);(try clear hi);have hcv33:=own_string (P:=Tryz.prog) Tryz.underlying66 Tryz.underlying5 Tryz.underlying9 (Kd.own_of_R HO_9.out)));try go_wp2_with (first | (go_at_call 44;(with_reducible refine(rotulusref22_Put.calls k3 (strOfNums x9_3) t668 _ A28.out).mono ?_);rintro e w32 ⟨rfl,hb⟩;have n0_:=Aside0.mk (Kd.R_below (by(with_reducible repeat (first | apply Kd.R_alloc | apply Kd.R_drewN | apply Kd.R_drew));exact HO_4.out) hb);have n1_:=Aside0.mk (Kd.R_below (by(with_reducible repeat (first | apply Kd.R_alloc | apply Kd.R_drewN | apply Kd.R_drew));exact HO_9.out) hb);have n2_:=Aside0.mk (below_step (by repeat (first | (with_reducible first | exact HB.out | apply below_alloc | apply pw_below_drewN | apply below_drew1) | exact HB.out)) hb);clear HO_4;clear HO_9;clear HB;have HO_4:=n0_;have HO_9:=n1_;have HB:=n2_;clear n0_ n1_ n2_;(try clear hb);(try clear hb2);(try clear hk);(try clear hi);have hcv33:=own_string (P:=Tryz.prog) Tryz.underlying66 Tryz.underlying5 Tryz.underlying9 (Kd.own_of_R HO_9.out))))
          go_ret2
          exact⟨by first | rfl | (simp [errW_none,errW_some]<;>rfl) | (simp [*,errW_none,errW_some]<;>rfl),by repeat (first | (with_reducible first | exact HB.out | apply below_alloc | apply pw_below_drewN | apply below_drew1) | exact HB.out)⟩
         ·
          rw [if_neg c29]at H
          have c29b0:(t668.toList == a0.toList)=false:=beq_eq_false_iff_ne.mpr c29
          have c29b1:(t668.toList != a0.toList)=true:=bne_iff_ne.mpr c29
          simp only [Option.some.injEq,Prod.mk.injEq]at H
          obtain⟨rfl,rfl⟩:=H
          obtain⟨Ao34,co34,eo34⟩:=Kd.R_slice HO_4.out
          subst eo34
          have hcv35:=own_string (P:=Tryz.prog) Tryz.underlying66 Tryz.underlying5 Tryz.underlying9 (Kd.own_of_R HO_9.out)
          go_wp2_with (first | (go_at_call 44;(with_reducible refine(rotulusref22_Put.calls k3 (strOfNums x9_3) t668 _ A28.out).mono ?_);rintro e w36 ⟨rfl,hb⟩;have n0_:=Aside0.mk (Kd.R_below (by(with_reducible repeat (first | apply Kd.R_alloc | apply Kd.R_drewN | apply Kd.R_drew));exact HO_4.out) hb);have n1_:=Aside0.mk (Kd.R_below (by(with_reducible repeat (first | apply Kd.R_alloc | apply Kd.R_drewN | apply Kd.R_drew));exact HO_9.out) hb);have n2_:=Aside0.mk (below_step (by repeat (first | (with_reducible first | exact HB.out | apply below_alloc | apply pw_below_drewN | apply below_drew1) | exact HB.out)) hb);clear HO_4;clear HO_9;clear HB;have HO_4:=n0_;have HO_9:=n1_;have HB:=n2_;clear n0_ n1_ n2_;(try clear hb);(try clear hb2);(try clear hk);(try clear hi)))
          repeat (go_quiet (first | (go_at_call 44;(with_reducible refine(rotulusref22_Put.calls k3 (strOfNums x9_3) t668 _ A28.out).mono ?_);rintro e w36 ⟨rfl,hb⟩;have n0_:=Aside0.mk (Kd.R_below (by(with_reducible repeat (first | apply Kd.R_alloc | apply Kd.R_drewN | apply Kd.R_drew));exact HO_4.out) hb);have n1_:=Aside0.mk (Kd.R_below (by(with_reducible repeat (first | apply Kd.R_alloc | apply Kd.R_drewN | apply Kd.R_drew));exact HO_9.out) hb);have n2_:=Aside0.mk (below_step (by repeat (first | (with_reducible first | exact HB.out | apply below_alloc | apply pw_below_drewN | apply below_drew1) | exact HB.out)) hb);clear HO_4;clear HO_9;clear HB;have HO_4:=n0_;have HO_9:=n1_;have HB:=n2_;clear n0_ n1_ n2_;(try clear hb);(try clear hb2);(try clear hk);(try clear hi)));try go_wp2_with (first | (go_at_call 44;(with_reducible refine(rotulusref22_Put.calls k3 (strOfNums x9_3) t668 _ A28.out).mono ?_);rintro e w36 ⟨rfl,hb⟩;have n0_:=Aside0.mk (Kd.R_below (by(with_reducible repeat (first | apply Kd.R_alloc | apply Kd.R_drewN | apply Kd.R_drew));exact HO_4.out) hb);have n1_:=Aside0.mk (Kd.R_below (by(with_reducible repeat (first | apply Kd.R_alloc | apply Kd.R_drewN | apply Kd.R_drew));exact HO_9.out) hb);have n2_:=Aside0.mk (below_step (by repeat (first | (with_reducible first | exact HB.out | apply below_alloc | apply pw_below_drewN | apply below_drew1) | exact HB.out)) hb);clear HO_4;clear HO_9;clear HB;have HO_4:=n0_;have HO_9:=n1_;have HB:=n2_;clear n0_ n1_ n2_;(try clear hb);(try clear hb2);(try clear hk);(try clear hi))))
          go_ret2
          exact⟨by first | rfl | (simp [errW_none,errW_some]<;>rfl) | (simp [*,errW_none,errW_some]<;>rfl),by repeat (first | (with_reducible first | exact HB.out | apply below_alloc | apply pw_below_drewN | apply below_drew1) | exact HB.out)⟩
end Go.Proofs.YtmmmjbipgngamaaGreatDoor.PBase

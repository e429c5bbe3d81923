/-
  What is proved here: rotuluslaw1.Begun answers true in every world, and turns nothing of what was there. rotuluslaw4.Begun answers true in every world, and turns nothing of what was there. rotuluslaw7.Begun answers true in every world, and turns nothing of what was there. what some functions of cells and signs answer at a few cells and signs; rotuluslaw10.Begun answers t rotuluslaw14.Begun answers true in every world, and turns nothing of what was there. rotuluslaw22.begun answers true in every world in which two variables of the library hold what they  No conditions but those that the theorems state.
-/
import Derived.Test.YtmmmjbipgngamaaGreatDoorProg
import Derived.Test.YtmmmjbipgngamaaGreatDoorVO
import Derived.KernelRfl
import Derived.Test.YtmmmjbipgngamaaGreatDoorVX
set_option linter.unusedVariables false
set_option linter.unusedSimpArgs false
namespace Go.Proofs.YtmmmjbipgngamaaGreatDoor
open Go.RowKit
theorem X41:Tryz.prog.follows .mixedOrders=true:=by kernel_rfl
set_option maxRecDepth 100000 in
theorem XFh:Vai.X4c (Vai.X7L Tryz.prog Vai.noOv 1000000 (.func 163) [] Vai.h0)=true:=by kernel_rfl
theorem X70:Vai.XCe Tryz.prog 163 #[] (.bool true):=Vai.X1s X41 Vai.X9L (args:=[]) rfl XFh
end Go.Proofs.YtmmmjbipgngamaaGreatDoor
namespace Go.Proofs.YtmmmjbipgngamaaGreatDoor
open Go.RowKit
set_option maxRecDepth 100000 in
theorem XFi:Vai.X4c (Vai.X7L Tryz.prog (Vai.ovs [163]) 1000000 (.func 242) [] Vai.h0)=true:=by kernel_rfl
theorem XBl:Vai.XCe Tryz.prog 242 #[] (.bool true):=Vai.X1s X41 (Vai.XAF (l:=[163]) (fun f hf=>by simp only [List.mem_singleton]at hf;subst hf;exact X70)) (args:=[]) rfl XFi
end Go.Proofs.YtmmmjbipgngamaaGreatDoor
namespace Go.Proofs.YtmmmjbipgngamaaGreatDoor
open Go.RowKit
set_option maxRecDepth 100000 in
theorem XFj:Vai.X4c (Vai.X7L Tryz.prog (Vai.ovs [163,242]) 1000000 (.func 147) [] Vai.h0)=true:=by kernel_rfl
theorem XFk:Vai.XCe Tryz.prog 147 #[] (.bool true):=Vai.X1s X41 (Vai.XAF (l:=[163,242]) (fun f hf=>by simp only [List.mem_cons,List.not_mem_nil,or_false]at hf;rcases hf with rfl | rfl<;>first  | exact X70 | exact XBl)) (args:=[]) rfl XFj
end Go.Proofs.YtmmmjbipgngamaaGreatDoor
namespace Go.Proofs.YtmmmjbipgngamaaGreatDoor
open Go.RowKit
noncomputable def cl (r w a:Int):Value:=.agg #[.int .i32 r,.int .i64 w,.int .i64 a]
noncomputable def ktC (r w a:Int) (may pad blank:Bool):List Vai.Kept:=[⟨71,[cl r w a],.bool may⟩,⟨108,[cl r w a],.bool pad⟩,⟨109,[cl r w a],.bool blank⟩]
noncomputable def ktW (r w:Int):List Vai.Kept:=[⟨117,[.int .i32 r],.int .i64 w⟩]
noncomputable def tbl:List Vai.Kept:=ktC 32 1 0 true false true++ktC 0 1 0 true true false++ktC 97 1 0 true false false++ktC 98 1 0 true false false++ktC 99 1 0 true false false++ktC 100 1 0 true false false++ktC 101 1 0 true false false++ktC 0x4E2D 2 0 true false false++ktC 0 0 0 true false false++ktW 97 1++ktW 98 1++ktW 99 1++ktW 100 1++ktW 101 1++ktW 0x4E2D 2
set_option maxRecDepth 100000 in
theorem XEX:tbl.all (Vai.X8T Tryz.prog Vai.noOv)=true:=by kernel_rfl
set_option maxRecDepth 100000 in
theorem XGs:Vai.X4c (Vai.X7L Tryz.prog (Vai.ovk [163,242,147] tbl) 1000000 (.func 52) [] Vai.h0)=true:=by kernel_rfl
theorem XGt:Vai.XCe Tryz.prog 52 #[] (.bool true):=Vai.X1s X41 (Vai.XEm (l:=[163,242,147]) (fun f hf=>by simp only [List.mem_cons,List.not_mem_nil,or_false]at hf;rcases hf with rfl | rfl | rfl<;>first | exact X70 | exact XBl | exact XFk) X41 Vai.X9L XEX) (args:=[]) rfl XGs
end Go.Proofs.YtmmmjbipgngamaaGreatDoor
namespace Go.Proofs.YtmmmjbipgngamaaGreatDoor
open Go.RowKit
set_option maxRecDepth 100000 in
theorem XGu:Vai.X4c (Vai.X7L Tryz.prog (Vai.ovs [163]) 1000000 (.func 53) [] Vai.h0)=true:=by kernel_rfl
theorem XGv:Vai.XCe Tryz.prog 53 #[] (.bool true):=Vai.X1s X41 (Vai.XAF (l:=[163]) (fun f hf=>by simp only [List.mem_singleton]at hf;subst hf;exact X70)) (args:=[]) rfl XGu
end Go.Proofs.YtmmmjbipgngamaaGreatDoor
namespace Go.Proofs.YtmmmjbipgngamaaGreatDoor
open Go.RowKit
set_option maxRecDepth 100000 in
theorem runs8:Vai.X4c (Vai.X7L Tryz.prog (ovT (Vai.ovk [52,53] tbl)) 1000000 (.func 8) [] Vai.h0)=true:=by kernel_rfl
theorem said8:Vai.XCe Tryz.prog 8 #[] (.bool true):=Vai.X1s X41 (XHI (Vai.XEm (l:=[52,53]) (fun f hf=>by simp only [List.mem_cons,List.not_mem_nil,or_false]at hf;rcases hf with rfl | rfl<;>first | exact XGt | exact XGv) X41 Vai.X9L XEX)) (args:=[]) rfl runs8
end Go.Proofs.YtmmmjbipgngamaaGreatDoor

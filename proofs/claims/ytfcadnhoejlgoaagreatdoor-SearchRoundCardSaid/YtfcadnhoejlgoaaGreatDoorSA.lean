/-
  What is proved here: rotuluslaw1.Begun answers true in every world, and turns nothing of what was there. rotuluslaw4.Begun answers true in every world, and turns nothing of what was there. rotuluslaw7.Begun answers true in every world, and turns nothing of what was there. what some functions of cells and signs answer at a few cells and signs; rotuluslaw10.Begun answers t rotuluslaw14.Begun answers true in every world, and turns nothing of what was there. rotuluslaw16.begun answers true in every world, and turns nothing of what was there. No conditions but those that the theorems state.
-/
import Derived.Test.YtfcadnhoejlgoaaGreatDoorProg
import Derived.Test.YtfcadnhoejlgoaaGreatDoorVO
import Derived.KernelRfl
set_option linter.unusedVariables false
set_option linter.unusedSimpArgs false
namespace Go.Proofs.YtfcadnhoejlgoaaGreatDoor
open Go.RowKit
theorem X4l:Tryz.prog.follows .mixedOrders=true:=by kernel_rfl
set_option maxRecDepth 100000 in
theorem XLz:Vai.X5b (Vai.X8t Tryz.prog Vai.noOv 1000000 (.func 87) [] Vai.h0)=true:=by kernel_rfl
theorem XC0:Vai.XFc Tryz.prog 87 #[] (.bool true):=Vai.X28 X4l Vai.XB9 (args:=[]) rfl XLz
end Go.Proofs.YtfcadnhoejlgoaaGreatDoor
namespace Go.Proofs.YtfcadnhoejlgoaaGreatDoor
open Go.RowKit
set_option maxRecDepth 100000 in
theorem XKZ:Vai.X5b (Vai.X8t Tryz.prog (Vai.ovs [87]) 1000000 (.func 167) [] Vai.h0)=true:=by kernel_rfl
theorem XF3:Vai.XFc Tryz.prog 167 #[] (.bool true):=Vai.X28 X4l (Vai.XCC (l:=[87]) (fun f hf=>by simp only [List.mem_singleton]at hf;subst hf;exact XC0)) (args:=[]) rfl XKZ
end Go.Proofs.YtfcadnhoejlgoaaGreatDoor
namespace Go.Proofs.YtfcadnhoejlgoaaGreatDoor
open Go.RowKit
set_option maxRecDepth 100000 in
theorem XM0:Vai.X5b (Vai.X8t Tryz.prog (Vai.ovs [87,167]) 1000000 (.func 80) [] Vai.h0)=true:=by kernel_rfl
theorem XM1:Vai.XFc Tryz.prog 80 #[] (.bool true):=Vai.X28 X4l (Vai.XCC (l:=[87,167]) (fun f hf=>by simp only [List.mem_cons,List.not_mem_nil,or_false]at hf;rcases hf with rfl | rfl<;>first  | exact XC0 | exact XF3)) (args:=[]) rfl XM0
end Go.Proofs.YtfcadnhoejlgoaaGreatDoor
namespace Go.Proofs.YtfcadnhoejlgoaaGreatDoor
open Go.RowKit
noncomputable def cl (r w a:Int):Value:=.agg #[.int .i32 r,.int .i64 w,.int .i64 a]
noncomputable def ktC (r w a:Int) (may pad blank:Bool):List Vai.XFn:=[⟨110,[cl r w a],.bool may⟩,⟨105,[cl r w a],.bool pad⟩,⟨106,[cl r w a],.bool blank⟩,⟨63,[cl r w a],.bool may⟩]
noncomputable def ktW (r w:Int):List Vai.XFn:=[⟨143,[.int .i32 r],.int .i64 w⟩,⟨44,[.int .i32 r],.int .i64 w⟩]
noncomputable def tbl:List Vai.XFn:=ktC 32 1 0 true false true++ktC 0 1 0 true true false++ktC 97 1 0 true false false++ktC 98 1 0 true false false++ktC 99 1 0 true false false++ktC 100 1 0 true false false++ktC 101 1 0 true false false++ktC 0x4E2D 2 0 true false false++ktC 0 0 0 true false false++ktW 97 1++ktW 98 1++ktW 99 1++ktW 100 1++ktW 101 1++ktW 0x4E2D 2
set_option maxRecDepth 100000 in
theorem XIO:tbl.all (Vai.XAH Tryz.prog Vai.noOv)=true:=by kernel_rfl
set_option maxRecDepth 100000 in
theorem XM2:Vai.X5b (Vai.X8t Tryz.prog (Vai.ovk [87,167,80] tbl) 1000000 (.func 31) [] Vai.h0)=true:=by kernel_rfl
theorem XM3:Vai.XFc Tryz.prog 31 #[] (.bool true):=Vai.X28 X4l (Vai.XIa (l:=[87,167,80]) (fun f hf=>by simp only [List.mem_cons,List.not_mem_nil,or_false]at hf;rcases hf with rfl | rfl | rfl<;>first | exact XC0 | exact XF3 | exact XM1) X4l Vai.XB9 XIO) (args:=[]) rfl XM2
end Go.Proofs.YtfcadnhoejlgoaaGreatDoor
namespace Go.Proofs.YtfcadnhoejlgoaaGreatDoor
open Go.RowKit
set_option maxRecDepth 100000 in
theorem XM4:Vai.X5b (Vai.X8t Tryz.prog (Vai.ovs [87]) 1000000 (.func 32) [] Vai.h0)=true:=by kernel_rfl
theorem XM5:Vai.XFc Tryz.prog 32 #[] (.bool true):=Vai.X28 X4l (Vai.XCC (l:=[87]) (fun f hf=>by simp only [List.mem_singleton]at hf;subst hf;exact XC0)) (args:=[]) rfl XM4
end Go.Proofs.YtfcadnhoejlgoaaGreatDoor
namespace Go.Proofs.YtfcadnhoejlgoaaGreatDoor
open Go.RowKit
set_option maxRecDepth 100000 in
theorem runs9:Vai.X5b (Vai.X8t Tryz.prog (Vai.ovk [31,32] tbl) 1000000 (.func 9) [] Vai.h0)=true:=by kernel_rfl
theorem said9:Vai.XFc Tryz.prog 9 #[] (.bool true):=Vai.X28 X4l (Vai.XIa (l:=[31,32]) (fun f hf=>by simp only [List.mem_cons,List.not_mem_nil,or_false]at hf;rcases hf with rfl | rfl<;>first  | exact XM3 | exact XM5) X4l Vai.XB9 XIO) (args:=[]) rfl runs9
end Go.Proofs.YtfcadnhoejlgoaaGreatDoor

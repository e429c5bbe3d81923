/-
  What is proved here: rotuluslaw1.Begun answers true in every world, and turns nothing of what was there. rotuluslaw4.Begun answers true in every world, and turns nothing of what was there. rotuluslaw7.Begun answers true in every world, and turns nothing of what was there. what some functions of cells and signs answer at a few cells and signs; rotuluslaw10.Begun answers t rotuluslaw14.Begun answers true in every world, and turns nothing of what was there. rotuluslaw22.begun answers true in every world in which two variables of the library hold what they  No conditions but those that the theorems state.
-/
import Derived.Test.YtmmmjbipgngamaaGreatDoorProg
import Derived.Test.YtmmmjbipgngamaaGreatDoorVO
import Derived.KernelRfl
import Derived.Test.YtmmmjbipgngamaaGreatDoorVX
set_option linter.unusedVariables false
set_option linter.unusedSimpArgs false
namespace Go.Proofs.YtmmmjbipgngamaaGreatDoor
open Go.RowKit
theorem X3C:Tryz.prog.follows .mixedOrders=true:=by kernel_rfl
set_option maxRecDepth 100000 in
theorem XCi:Vai.X3M (Vai.X5A Tryz.prog Vai.noOv 1000000 (.func 163) [] Vai.h0)=true:=by kernel_rfl
theorem X5j:Vai.XAF Tryz.prog 163 #[] (.bool true):=Vai.X17 X3C Vai.X7b (args:=[]) rfl XCi
end Go.Proofs.YtmmmjbipgngamaaGreatDoor
namespace Go.Proofs.YtmmmjbipgngamaaGreatDoor
open Go.RowKit
set_option maxRecDepth 100000 in
theorem XCj:Vai.X3M (Vai.X5A Tryz.prog (Vai.ovs [163]) 1000000 (.func 242) [] Vai.h0)=true:=by kernel_rfl
theorem X9e:Vai.XAF Tryz.prog 242 #[] (.bool true):=Vai.X17 X3C (Vai.X8H (l:=[163]) (fun f hf=>by simp only [List.mem_singleton]at hf;subst hf;exact X5j)) (args:=[]) rfl XCj
end Go.Proofs.YtmmmjbipgngamaaGreatDoor
namespace Go.Proofs.YtmmmjbipgngamaaGreatDoor
open Go.RowKit
set_option maxRecDepth 100000 in
theorem XCk:Vai.X3M (Vai.X5A Tryz.prog (Vai.ovs [163,242]) 1000000 (.func 147) [] Vai.h0)=true:=by kernel_rfl
theorem XCl:Vai.XAF Tryz.prog 147 #[] (.bool true):=Vai.X17 X3C (Vai.X8H (l:=[163,242]) (fun f hf=>by simp only [List.mem_cons,List.not_mem_nil,or_false]at hf;rcases hf with rfl | rfl<;>first  | exact X5j | exact X9e)) (args:=[]) rfl XCk
end Go.Proofs.YtmmmjbipgngamaaGreatDoor
namespace Go.Proofs.YtmmmjbipgngamaaGreatDoor
open Go.RowKit
noncomputable def cl (r w a:Int):Value:=.agg #[.int .i32 r,.int .i64 w,.int .i64 a]
noncomputable def ktC (r w a:Int) (may pad blank:Bool):List Vai.XAN:=[⟨71,[cl r w a],.bool may⟩,⟨108,[cl r w a],.bool pad⟩,⟨109,[cl r w a],.bool blank⟩]
noncomputable def ktW (r w:Int):List Vai.XAN:=[⟨117,[.int .i32 r],.int .i64 w⟩]
noncomputable def tbl:List Vai.XAN:=ktC 32 1 0 true false true++ktC 0 1 0 true true false++ktC 97 1 0 true false false++ktC 98 1 0 true false false++ktC 99 1 0 true false false++ktC 100 1 0 true false false++ktC 101 1 0 true false false++ktC 0x4E2D 2 0 true false false++ktC 0 0 0 true false false++ktW 97 1++ktW 98 1++ktW 99 1++ktW 100 1++ktW 101 1++ktW 0x4E2D 2
set_option maxRecDepth 100000 in
theorem XBk:tbl.all (Vai.X6w Tryz.prog Vai.noOv)=true:=by kernel_rfl
set_option maxRecDepth 100000 in
theorem XDk:Vai.X3M (Vai.X5A Tryz.prog (Vai.ovk [163,242,147] tbl) 1000000 (.func 52) [] Vai.h0)=true:=by kernel_rfl
theorem XDl:Vai.XAF Tryz.prog 52 #[] (.bool true):=Vai.X17 X3C (Vai.XBx (l:=[163,242,147]) (fun f hf=>by simp only [List.mem_cons,List.not_mem_nil,or_false]at hf;rcases hf with rfl | rfl | rfl<;>first | exact X5j | exact X9e | exact XCl) X3C Vai.X7b XBk) (args:=[]) rfl XDk
end Go.Proofs.YtmmmjbipgngamaaGreatDoor
namespace Go.Proofs.YtmmmjbipgngamaaGreatDoor
open Go.RowKit
set_option maxRecDepth 100000 in
theorem XDm:Vai.X3M (Vai.X5A Tryz.prog (Vai.ovs [163]) 1000000 (.func 53) [] Vai.h0)=true:=by kernel_rfl
theorem XDn:Vai.XAF Tryz.prog 53 #[] (.bool true):=Vai.X17 X3C (Vai.X8H (l:=[163]) (fun f hf=>by simp only [List.mem_singleton]at hf;subst hf;exact X5j)) (args:=[]) rfl XDm
end Go.Proofs.YtmmmjbipgngamaaGreatDoor
namespace Go.Proofs.YtmmmjbipgngamaaGreatDoor
open Go.RowKit
set_option maxRecDepth 100000 in
theorem runs8:Vai.X3M (Vai.X5A Tryz.prog (ovT (Vai.ovk [52,53] tbl)) 1000000 (.func 8) [] Vai.h0)=true:=by kernel_rfl
theorem said8:Vai.XAF Tryz.prog 8 #[] (.bool true):=Vai.X17 X3C (XE7 (Vai.XBx (l:=[52,53]) (fun f hf=>by simp only [List.mem_cons,List.not_mem_nil,or_false]at hf;rcases hf with rfl | rfl<;>first | exact XDl | exact XDn) X3C Vai.X7b XBk)) (args:=[]) rfl runs8
end Go.Proofs.YtmmmjbipgngamaaGreatDoor

/-
  What is proved here: rotuluslaw1.Begun answers true in every world, and turns nothing of what was there. rotuluslaw4.Begun answers true in every world, and turns nothing of what was there. rotuluslaw7.Begun answers true in every world, and turns nothing of what was there. what some functions of cells and signs answer at a few cells and signs; rotuluslaw10.Begun answers t rotuluslaw14.Begun answers true in every world, and turns nothing of what was there. rotuluslaw22.begun answers true in every world in which two variables of the library hold what they  No conditions but those that the theorems state.
-/
import Derived.Test.YtmmmjbipgngamaaGreatDoorProg
import Derived.Test.YtmmmjbipgngamaaGreatDoorVO
import Derived.KernelRfl
import Derived.Test.YtmmmjbipgngamaaGreatDoorVX
set_option linter.unusedVariables false
set_option linter.unusedSimpArgs false
namespace Go.Proofs.YtmmmjbipgngamaaGreatDoor
open Go.RowKit
theorem X35:Tryz.prog.follows .mixedOrders=true:=by kernel_rfl
set_option maxRecDepth 100000 in
theorem XCE:Vai.X3F (Vai.X4z Tryz.prog Vai.noOv 1000000 (.func 163) [] Vai.h0)=true:=by kernel_rfl
theorem X5Y:Vai.X9p Tryz.prog 163 #[] (.bool true):=Vai.X14 X35 Vai.X7J (args:=[]) rfl XCE
end Go.Proofs.YtmmmjbipgngamaaGreatDoor
namespace Go.Proofs.YtmmmjbipgngamaaGreatDoor
open Go.RowKit
set_option maxRecDepth 100000 in
theorem XCF:Vai.X3F (Vai.X4z Tryz.prog (Vai.ovs [163]) 1000000 (.func 242) [] Vai.h0)=true:=by kernel_rfl
theorem X9G:Vai.X9p Tryz.prog 242 #[] (.bool true):=Vai.X14 X35 (Vai.X7w (l:=[163]) (fun f hf=>by simp only [List.mem_singleton]at hf;subst hf;exact X5Y)) (args:=[]) rfl XCF
end Go.Proofs.YtmmmjbipgngamaaGreatDoor
namespace Go.Proofs.YtmmmjbipgngamaaGreatDoor
open Go.RowKit
set_option maxRecDepth 100000 in
theorem XCG:Vai.X3F (Vai.X4z Tryz.prog (Vai.ovs [163,242]) 1000000 (.func 147) [] Vai.h0)=true:=by kernel_rfl
theorem XCH:Vai.X9p Tryz.prog 147 #[] (.bool true):=Vai.X14 X35 (Vai.X7w (l:=[163,242]) (fun f hf=>by simp only [List.mem_cons,List.not_mem_nil,or_false]at hf;rcases hf with rfl | rfl<;>first  | exact X5Y | exact X9G)) (args:=[]) rfl XCG
end Go.Proofs.YtmmmjbipgngamaaGreatDoor
namespace Go.Proofs.YtmmmjbipgngamaaGreatDoor
open Go.RowKit
noncomputable def cl (r w a:Int):Value:=.agg #[.int .i32 r,.int .i64 w,.int .i64 a]
noncomputable def ktC (r w a:Int) (may pad blank:Bool):List Vai.X9v:=[⟨71,[cl r w a],.bool may⟩,⟨108,[cl r w a],.bool pad⟩,⟨109,[cl r w a],.bool blank⟩]
noncomputable def ktW (r w:Int):List Vai.X9v:=[⟨117,[.int .i32 r],.int .i64 w⟩]
noncomputable def tbl:List Vai.X9v:=ktC 32 1 0 true false true++ktC 0 1 0 true true false++ktC 97 1 0 true false false++ktC 98 1 0 true false false++ktC 99 1 0 true false false++ktC 100 1 0 true false false++ktC 101 1 0 true false false++ktC 0x4E2D 2 0 true false false++ktC 0 0 0 true false false++ktW 97 1++ktW 98 1++ktW 99 1++ktW 100 1++ktW 101 1++ktW 0x4E2D 2
set_option maxRecDepth 100000 in
theorem XBJ:tbl.all (Vai.X6h Tryz.prog Vai.noOv)=true:=by kernel_rfl
set_option maxRecDepth 100000 in
theorem XDF:Vai.X3F (Vai.X4z Tryz.prog (Vai.ovk [163,242,147] tbl) 1000000 (.func 52) [] Vai.h0)=true:=by kernel_rfl
theorem XDG:Vai.X9p Tryz.prog 52 #[] (.bool true):=Vai.X14 X35 (Vai.XBW (l:=[163,242,147]) (fun f hf=>by simp only [List.mem_cons,List.not_mem_nil,or_false]at hf;rcases hf with rfl | rfl | rfl<;>first | exact X5Y | exact X9G | exact XCH) X35 Vai.X7J XBJ) (args:=[]) rfl XDF
end Go.Proofs.YtmmmjbipgngamaaGreatDoor
namespace Go.Proofs.YtmmmjbipgngamaaGreatDoor
open Go.RowKit
set_option maxRecDepth 100000 in
theorem XDH:Vai.X3F (Vai.X4z Tryz.prog (Vai.ovs [163]) 1000000 (.func 53) [] Vai.h0)=true:=by kernel_rfl
theorem XDI:Vai.X9p Tryz.prog 53 #[] (.bool true):=Vai.X14 X35 (Vai.X7w (l:=[163]) (fun f hf=>by simp only [List.mem_singleton]at hf;subst hf;exact X5Y)) (args:=[]) rfl XDH
end Go.Proofs.YtmmmjbipgngamaaGreatDoor
namespace Go.Proofs.YtmmmjbipgngamaaGreatDoor
open Go.RowKit
set_option maxRecDepth 100000 in
theorem runs8:Vai.X3F (Vai.X4z Tryz.prog (ovT (Vai.ovk [52,53] tbl)) 1000000 (.func 8) [] Vai.h0)=true:=by kernel_rfl
theorem said8:Vai.X9p Tryz.prog 8 #[] (.bool true):=Vai.X14 X35 (XDZ (Vai.XBW (l:=[52,53]) (fun f hf=>by simp only [List.mem_cons,List.not_mem_nil,or_false]at hf;rcases hf with rfl | rfl<;>first | exact XDG | exact XDI) X35 Vai.X7J XBJ)) (args:=[]) rfl runs8
end Go.Proofs.YtmmmjbipgngamaaGreatDoor

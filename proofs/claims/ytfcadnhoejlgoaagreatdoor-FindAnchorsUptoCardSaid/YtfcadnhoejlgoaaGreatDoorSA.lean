/-
  What is proved here: rotuluslaw1.Begun answers true in every world, and turns nothing of what was there. rotuluslaw4.Begun answers true in every world, and turns nothing of what was there. rotuluslaw7.Begun answers true in every world, and turns nothing of what was there. what some functions of cells and signs answer at a few cells and signs; rotuluslaw10.Begun answers true in every world, and turns nothing of what was there. rotuluslaw14.Begun answers true in every world, and turns nothing of what was there. rotuluslaw16.begun answers true in every world, and turns nothing of what was there. No conditions but those that the theorems state.
-/
import Derived.Test.YtfcadnhoejlgoaaGreatDoorProg
import Derived.Test.YtfcadnhoejlgoaaGreatDoorVO
import Derived.KernelRfl
set_option linter.unusedVariables false
set_option linter.unusedSimpArgs false
namespace Go.Proofs.YtfcadnhoejlgoaaGreatDoor
open Go.RowKit
theorem mixedP : Tryz.prog.follows .mixedOrders = true := by kernel_rfl
set_option maxRecDepth 100000 in
theorem runs87 : Vai.okTrue (Vai.runN' Tryz.prog Vai.noOv 1000000 (.func 87) [] Vai.h0) = true := by kernel_rfl
theorem said87 : Vai.Said Tryz.prog 87 #[] (.bool true) := Vai.closed_said mixedP Vai.noOv_ok (args := []) rfl runs87
end Go.Proofs.YtfcadnhoejlgoaaGreatDoor
namespace Go.Proofs.YtfcadnhoejlgoaaGreatDoor
open Go.RowKit
set_option maxRecDepth 100000 in
theorem runs167 : Vai.okTrue (Vai.runN' Tryz.prog (Vai.ovs [87]) 1000000 (.func 167) [] Vai.h0) = true := by kernel_rfl
theorem said167 : Vai.Said Tryz.prog 167 #[] (.bool true) := Vai.closed_said mixedP (Vai.ovs_ok (l := [87]) (fun f hf => by simp only [List.mem_singleton] at hf; subst hf; exact said87)) (args := []) rfl runs167
end Go.Proofs.YtfcadnhoejlgoaaGreatDoor
namespace Go.Proofs.YtfcadnhoejlgoaaGreatDoor
open Go.RowKit
set_option maxRecDepth 100000 in
theorem runs80 : Vai.okTrue (Vai.runN' Tryz.prog (Vai.ovs [87, 167]) 1000000 (.func 80) [] Vai.h0) = true := by kernel_rfl
theorem said80 : Vai.Said Tryz.prog 80 #[] (.bool true) := Vai.closed_said mixedP (Vai.ovs_ok (l := [87, 167]) (fun f hf => by simp only [List.mem_cons, List.not_mem_nil, or_false] at hf; rcases hf with rfl | rfl <;> first  | exact said87 | exact said167)) (args := []) rfl runs80
end Go.Proofs.YtfcadnhoejlgoaaGreatDoor
namespace Go.Proofs.YtfcadnhoejlgoaaGreatDoor
open Go.RowKit
noncomputable def cl (r w a : Int) : Value := .agg #[.int .i32 r, .int .i64 w, .int .i64 a]
noncomputable def ktC (r w a : Int) (may pad blank : Bool) : List Vai.Kept := [⟨110, [cl r w a], .bool may⟩, ⟨105, [cl r w a], .bool pad⟩, ⟨106, [cl r w a], .bool blank⟩, ⟨63, [cl r w a], .bool may⟩]
noncomputable def ktW (r w : Int) : List Vai.Kept := [⟨143, [.int .i32 r], .int .i64 w⟩, ⟨44, [.int .i32 r], .int .i64 w⟩]
noncomputable def tbl : List Vai.Kept := ktC 32 1 0 true false true ++ ktC 0 1 0 true true false ++ ktC 97 1 0 true false false ++ ktC 98 1 0 true false false ++ ktC 99 1 0 true false false ++ ktC 100 1 0 true false false ++ ktC 101 1 0 true false false ++ ktC 0x4E2D 2 0 true false false ++ ktC 0 0 0 true false false ++ ktW 97 1 ++ ktW 98 1 ++ ktW 99 1 ++ ktW 100 1 ++ ktW 101 1 ++ ktW 0x4E2D 2
set_option maxRecDepth 100000 in
theorem tbl_ok : tbl.all (Vai.keptOk Tryz.prog Vai.noOv) = true := by kernel_rfl
set_option maxRecDepth 100000 in
theorem runs31 : Vai.okTrue (Vai.runN' Tryz.prog (Vai.ovk [87, 167, 80] tbl) 1000000 (.func 31) [] Vai.h0) = true := by kernel_rfl
theorem said31 : Vai.Said Tryz.prog 31 #[] (.bool true) := Vai.closed_said mixedP (Vai.ovk_ok (l := [87, 167, 80]) (fun f hf => by simp only [List.mem_cons, List.not_mem_nil, or_false] at hf; rcases hf with rfl | rfl | rfl <;> first | exact said87 | exact said167 | exact said80) mixedP Vai.noOv_ok tbl_ok) (args := []) rfl runs31
end Go.Proofs.YtfcadnhoejlgoaaGreatDoor
namespace Go.Proofs.YtfcadnhoejlgoaaGreatDoor
open Go.RowKit
set_option maxRecDepth 100000 in
theorem runs32 : Vai.okTrue (Vai.runN' Tryz.prog (Vai.ovs [87]) 1000000 (.func 32) [] Vai.h0) = true := by kernel_rfl
theorem said32 : Vai.Said Tryz.prog 32 #[] (.bool true) := Vai.closed_said mixedP (Vai.ovs_ok (l := [87]) (fun f hf => by simp only [List.mem_singleton] at hf; subst hf; exact said87)) (args := []) rfl runs32
end Go.Proofs.YtfcadnhoejlgoaaGreatDoor
namespace Go.Proofs.YtfcadnhoejlgoaaGreatDoor
open Go.RowKit
set_option maxRecDepth 100000 in
theorem runs9 : Vai.okTrue (Vai.runN' Tryz.prog (Vai.ovk [31, 32] tbl) 1000000 (.func 9) [] Vai.h0) = true := by kernel_rfl
theorem said9 : Vai.Said Tryz.prog 9 #[] (.bool true) := Vai.closed_said mixedP (Vai.ovk_ok (l := [31, 32]) (fun f hf => by simp only [List.mem_cons, List.not_mem_nil, or_false] at hf; rcases hf with rfl | rfl <;> first  | exact said31 | exact said32) mixedP Vai.noOv_ok tbl_ok) (args := []) rfl runs9
end Go.Proofs.YtfcadnhoejlgoaaGreatDoor

/-
  What is proved here: what some functions of cells and signs answer at a few cells and signs; rotuluslaw10.Begun answers true in every world, and turns nothing of what was there. No conditions.
-/
import Derived.Test.YtjlpocmikddobaaGreatDoorProg
import Derived.Test.YtjlpocmikddobaaGreatDoorVO
import Derived.KernelRfl
import Derived.Test.YtjlpocmikddobaaGreatDoorSC
namespace Go.Proofs.YtjlpocmikddobaaGreatDoor
open Go.RowKit
noncomputable def cl (r w a : Int) : Value := .agg #[.int .i32 r, .int .i64 w, .int .i64 a]
noncomputable def ktC (r w a : Int) (may pad blank : Bool) : List Vai.Kept := [⟨115, [cl r w a], .bool may⟩, ⟨126, [cl r w a], .bool pad⟩, ⟨164, [cl r w a], .bool blank⟩, ⟨332, [cl r w a], .bool may⟩]
noncomputable def ktW (r w : Int) : List Vai.Kept := [⟨171, [.int .i32 r], .int .i64 w⟩, ⟨331, [.int .i32 r], .int .i64 w⟩]
noncomputable def tbl : List Vai.Kept := ktC 32 1 0 true false true ++ ktC 0 1 0 true true false ++ ktC 97 1 0 true false false ++ ktC 98 1 0 true false false ++ ktC 99 1 0 true false false ++ ktC 100 1 0 true false false ++ ktC 101 1 0 true false false ++ ktC 0x4E2D 2 0 true false false ++ ktC 0 0 0 true false false ++ ktW 97 1 ++ ktW 98 1 ++ ktW 99 1 ++ ktW 100 1 ++ ktW 101 1 ++ ktW 0x4E2D 2

set_option maxRecDepth 100000 in
theorem tbl_ok : tbl.all (Vai.keptOk Tryz.prog Vai.noOv) = true := by kernel_rfl
set_option maxRecDepth 100000 in
theorem runs48 : Vai.okTrue (Vai.runN' Tryz.prog (Vai.ovk [149, 263, 141] tbl) 1000000 (.func 48) [] Vai.h0) = true := by kernel_rfl
theorem said48 : Vai.Said Tryz.prog 48 #[] (.bool true) := Vai.closed_said mixedP (Vai.ovk_ok (l := [149, 263, 141]) (fun f hf => by simp only [List.mem_cons, List.not_mem_nil, or_false] at hf; rcases hf with rfl | rfl | rfl <;> first | exact said149 | exact said263 | exact said141) mixedP Vai.noOv_ok tbl_ok) (args := []) rfl runs48
end Go.Proofs.YtjlpocmikddobaaGreatDoor

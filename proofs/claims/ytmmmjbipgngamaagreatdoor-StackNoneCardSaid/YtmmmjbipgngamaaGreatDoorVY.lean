/-
  What is proved here: strconv.Itoa, by the library's contract laid at this program, is an answer known otherwise; what a row's world holds of two variables. No conditions.
-/
import Derived.Test.YtmmmjbipgngamaaGreatDoorSA
import Derived.Shelf.Strconv.Itoa3
import Derived.Lib.LaidU8
import Derived.Lib.LaidTab
import Derived.Test.YtmmmjbipgngamaaGreatDoorRows
set_option linter.unusedVariables false
set_option linter.unusedSimpArgs false
set_option maxRecDepth 100000
namespace Go.Proofs.YtmmmjbipgngamaaGreatDoor
open Go.Shelf Go.RowKit
theorem X6o:Tryz.prog.globalNamed "internal/strconv.uint64pow10" = some 2:=by kernel_rfl
noncomputable def X65 (g:Nat) (n:Nat) (ty:Nat):Bool:=match((begin Tryz.prog (fun _ _=>0) default).world.heap[g]?).bind Obj.row? with
 | some (zero,t)=>Nat.beq zero.size n && Nat.beq t ty
 | none=>false
theorem gvar3:X65 3 1 3=true:=by kernel_rfl
theorem glob3:3<Tryz.prog.globals.size:=of_decide_eq_true (by kernel_rfl)
theorem X6p:Tryz.prog.buildable 3=true:=by kernel_rfl
theorem X6T:Tryz.prog.cellTypes Tryz.prog.depth 3=some [3]:=by kernel_rfl
theorem X6U {W:World} (S:W.ShapedOpen Tryz.prog):∃ m,W.cell? ⟨3,0,none⟩=some (.int .i64 m):=by
 have h:=gvar3
 unfold X65 at h
 split at h
 ·
  rename_i zero t e
  simp only [Bool.and_eq_true]at h
  have e2:=Nat.eq_of_beq_eq_true h.2
  subst e2
  obtain⟨cs,h1,h2,h3⟩:=S.1 3 zero 3 glob3 e
  have hs:cs.size=1:=h2.trans (Nat.eq_of_beq_eq_true h.1)
  obtain⟨ts,q1,_,q3⟩:=h3 X6p
  rw [X6T]at q1
  cases q1
  obtain⟨v,hv⟩:∃ v,cs[0]?=some v:=⟨_,Array.getElem?_eq_getElem (by omega)⟩
  obtain⟨u,r1,r2⟩:=q3 0 v hv
  cases r1
  unfold Cell.ok at r2
  rw [Tryz.underlying3]at r2
  cases v<;>try (exact r2.elim)
  rename_i k m
  obtain⟨rfl,_⟩:=r2
  refine⟨m,?_⟩
  unfold World.cell?
  rw [h1]
  simpa using hv
 · cases h
theorem X6q:(Rows.laid_internal_strconv_uint64pow10:DataW Unit)=Lib.tabData .u64 Lib.pow10Tab:=by kernel_rfl
theorem X6r:(Tryz.prog.globals[2]?).map (·.type)=some 270:=by kernel_rfl
theorem tabs {W:World} {l:List (String×DataW Unit)} (hm:("internal/strconv.uint64pow10", Rows.laid_internal_strconv_uint64pow10)∈l) (hL:laidMet Tryz.prog l W) (S:W.ShapedOpen Tryz.prog):Vai.TW W:=by
 refine⟨?_,X6U S⟩
 obtain⟨g,t,cs,fuel,p,h1,h2,h3,h4⟩:=Lib.laidMet.reads hL hm
 obtain rfl:=Option.some.inj (X6o.symm.trans h1)
 obtain rfl:=Option.some.inj (X6r.symm.trans h2)
 rw [X6q]at h4
 have e:=Lib.cells_of_tab (n:=20) (e:=223) Tryz.underlying270 Tryz.underlying223 (by kernel_rfl) (by kernel_rfl) h4
 unfold World.var? at h3
 rw [X6o]at h3
 simp only [Option.bind_some]at h3
 split at h3
 ·
  rename_i c t' f e3
  cases h3
  refine⟨t',f,?_⟩
  rw [e3]
  have:cs=cs.toList.toArray:=by simp
  rw [this,e]
 · cases h3
end Go.Proofs.YtmmmjbipgngamaaGreatDoor

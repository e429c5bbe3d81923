/-
  What is proved here: strconv.Itoa, by the library's contract laid at this program, is an answer known otherwise; what a row's world holds of two variables. No conditions.
-/
import Derived.Test.YtmmmjbipgngamaaGreatDoorSA
import Derived.Shelf.Strconv.Itoa3
import Derived.Lib.LaidU8
import Derived.Lib.LaidTab
import Derived.Test.YtmmmjbipgngamaaGreatDoorRows
set_option linter.unusedVariables false
set_option linter.unusedSimpArgs false
set_option maxRecDepth 100000
namespace Go.Proofs.YtmmmjbipgngamaaGreatDoor
open Go.Shelf Go.RowKit
def renI:Ren:=⟨fun x=>match x with
 | 171=>33
 | 243=>58
 | 246=>106
 | 283=>168
 | 284=>169
 | 285=>170
 | 286=>171
 | 129=>224
 | 317=>223
 | 318=>225
 | 319=>226
 | 320=>227
 | 337=>253
 | 338=>254
 | x=>x,fun x=>match x with
 | 171=>222
 | 53=>223
 | 37=>66
 | 173=>226
 | 212=>270
 | 51=>231
 | 213=>271
 | 46=>96
 | 232=>309
 | 233=>310
 | x=>x,fun x=>match x with
 | 17=>2
 | 18=>4
 | 19=>5
 | x=>x⟩
theorem laysI:LaysM.n171 Tryz.prog renI:={
 mixed:=by kernel_rfl
 f129:=by kernel_rfl
 f171:=by kernel_rfl
 f243:=by kernel_rfl
 f246:=by kernel_rfl
 f283:=by kernel_rfl
 f284:=by kernel_rfl
 f285:=by kernel_rfl
 f286:=by kernel_rfl
 f317:=by kernel_rfl
 f318:=by kernel_rfl
 f319:=by kernel_rfl
 f320:=by kernel_rfl
 f337:=by kernel_rfl
 f338:=by kernel_rfl
 t0:=by kernel_rfl
 a0:=fun _=>by kernel_rfl
 z0:=fun _=>by kernel_rfl
 v0:=fun _=>by kernel_rfl
 t2:=by kernel_rfl
 a2:=fun _=>by kernel_rfl
 z2:=fun _=>by kernel_rfl
 v2:=fun _=>by kernel_rfl
 t3:=by kernel_rfl
 a3:=fun _=>by kernel_rfl
 z3:=fun _=>by kernel_rfl
 v3:=fun _=>by kernel_rfl
 t4:=by kernel_rfl
 a4:=fun _=>by kernel_rfl
 z4:=fun _=>by kernel_rfl
 v4:=fun _=>by kernel_rfl
 t5:=by kernel_rfl
 a5:=fun _=>by kernel_rfl
 z5:=fun _=>by kernel_rfl
 v5:=fun _=>by kernel_rfl
 t9:=by kernel_rfl
 a9:=fun _=>by kernel_rfl
 z9:=fun _=>by kernel_rfl
 v9:=fun _=>by kernel_rfl
 t20:=by kernel_rfl
 a20:=fun _=>by kernel_rfl
 z20:=fun _=>by kernel_rfl
 v20:=fun _=>by kernel_rfl
 t37:=by kernel_rfl
 a37:=fun _=>by kernel_rfl
 z37:=fun _=>by kernel_rfl
 v37:=fun _=>by kernel_rfl
 t46:=by kernel_rfl
 a46:=fun _=>by kernel_rfl
 z46:=fun _=>by kernel_rfl
 v46:=fun _=>by kernel_rfl
 t51:=by kernel_rfl
 a51:=fun _=>by kernel_rfl
 z51:=fun _=>by kernel_rfl
 v51:=fun _=>by kernel_rfl
 t53:=by kernel_rfl
 a53:=fun _=>by kernel_rfl
 z53:=fun _=>by kernel_rfl
 v53:=fun _=>by kernel_rfl
 t171:=by kernel_rfl
 a171:=fun _=>by kernel_rfl
 z171:=fun _=>by kernel_rfl
 v171:=fun _=>by kernel_rfl
 t173:=by kernel_rfl
 a173:=fun _=>by kernel_rfl
 z173:=fun _=>by kernel_rfl
 v173:=fun _=>by kernel_rfl
 t212:=by kernel_rfl
 a212:=fun _=>by kernel_rfl
 z212:=fun _=>by kernel_rfl
 v212:=fun _=>by kernel_rfl
 t213:=by kernel_rfl
 a213:=fun _=>by kernel_rfl
 z213:=fun _=>by kernel_rfl
 t232:=by kernel_rfl
 a232:=fun _=>by kernel_rfl
 z232:=fun _=>by kernel_rfl
 v232:=fun _=>by kernel_rfl
 t233:=by kernel_rfl
 a233:=fun _=>by kernel_rfl
 z233:=fun _=>by kernel_rfl
 v233:=fun _=>by kernel_rfl
 g17:=by kernel_rfl
 g18:=by kernel_rfl
 g19:=by kernel_rfl
 i0:=by kernel_rfl
 i2:=by kernel_rfl
 i3:=by kernel_rfl
 i4:=by kernel_rfl
 i5:=by kernel_rfl
 i9:=by kernel_rfl
 i20:=by kernel_rfl
 i37:=by kernel_rfl
 i46:=by kernel_rfl
 i51:=by kernel_rfl
 i53:=by kernel_rfl
 i171:=by kernel_rfl
 i173:=by kernel_rfl
 i212:=by kernel_rfl
 i232:=by kernel_rfl
 i233:=by kernel_rfl
 m17:=by kernel_rfl
 m18:=by kernel_rfl
 m19:=by kernel_rfl
}
noncomputable def X8U:List Value→Vai.Heap→Option (Value×Vai.Heap):=fun args h=>match args with
 | [.int .i64 n]=>match decide (-9223372036854775808≤n∧n≤9223372036854775807)with
  | true=>some (.string ⟨(Lib.itoa n).toArray⟩,h)
  | false=>none
 | _=>none
theorem XGD:Tryz.prog.globalNamed "internal/strconv.uint64pow10" = some 2:=by kernel_rfl
theorem itoaK:Vai.X2f Tryz.prog 33 X8U:=by
 intro args h v h' e ρ w args' H r
 unfold X8U at e
 split at e
 ·
  rename_i n
  split at e
  ·
   rename_i hd
   cases e
   have hd:=of_decide_eq_true hd
   have ha:args'=#[.int .i64 n]:=by
    refine Array.toList_inj.1 ?_
    generalize args'.toList=l at r
    cases r with
    | cons r1 t =>
     cases t
     rw [r1.eq_of_plain rfl]
   subst ha
   have hT:Lib.TabIs Tryz.prog w "internal/strconv.uint64pow10" .u64 Lib.pow10Tab:=by
    unfold Lib.TabIs World.var?
    rw [XGD]
    obtain⟨t,f,e⟩:=H.nx.1.1
    simp only [Option.bind_some,e]
   refine(Any.strconv_Itoa laysI n hd.1 hd.2 w hT).mono ?_
   rintro e' w' ⟨q1,k,os,rfl⟩
   subst q1
   exact Vai.X1G H rfl ⟨rfl,rfl,rfl,by simp [Sort.grow,World.drewN],fun j hj=>by
    show(w.heap++os)[j]?=_
    exact Array.getElem?_append_left hj⟩
  · cases e
 · cases e
noncomputable def XCi (g:Nat) (n:Nat) (ty:Nat):Bool:=match((begin Tryz.prog (fun _ _=>0) default).world.heap[g]?).bind Obj.row? with
 | some (zero,t)=>Nat.beq zero.size n && Nat.beq t ty
 | none=>false
theorem XHJ:XCi 3 1 3=true:=by kernel_rfl
theorem XHK:3<Tryz.prog.globals.size:=of_decide_eq_true (by kernel_rfl)
theorem XHL:Tryz.prog.buildable 3=true:=by kernel_rfl
theorem XGE:Tryz.prog.cellTypes Tryz.prog.depth 3=some [3]:=by kernel_rfl
theorem XGF {W:World} (S:W.ShapedOpen Tryz.prog):∃ m,W.cell? ⟨3,0,none⟩=some (.int .i64 m):=by
 have h:=XHJ
 unfold XCi at h
 split at h
 ·
  rename_i zero t e
  simp only [Bool.and_eq_true]at h
  have e2:=Nat.eq_of_beq_eq_true h.2
  subst e2
  obtain⟨cs,h1,h2,h3⟩:=S.1 3 zero 3 XHK e
  have hs:cs.size=1:=h2.trans (Nat.eq_of_beq_eq_true h.1)
  obtain⟨ts,q1,_,q3⟩:=h3 XHL
  rw [XGE]at q1
  cases q1
  obtain⟨v,hv⟩:∃ v,cs[0]?=some v:=⟨_,Array.getElem?_eq_getElem (by omega)⟩
  obtain⟨u,r1,r2⟩:=q3 0 v hv
  cases r1
  unfold Cell.ok at r2
  rw [Tryz.underlying3]at r2
  cases v<;>try (exact r2.elim)
  rename_i k m
  obtain⟨rfl,_⟩:=r2
  refine⟨m,?_⟩
  unfold World.cell?
  rw [h1]
  simpa using hv
 · cases h
theorem XHM:(Rows.laid_internal_strconv_uint64pow10:DataW Unit)=Lib.tabData .u64 Lib.pow10Tab:=by kernel_rfl
theorem XHN:(Tryz.prog.globals[2]?).map (·.type)=some 270:=by kernel_rfl
theorem tabs {W:World} {l:List (String×DataW Unit)} (hm:("internal/strconv.uint64pow10", Rows.laid_internal_strconv_uint64pow10)∈l) (hL:laidMet Tryz.prog l W) (S:W.ShapedOpen Tryz.prog):Vai.TW W:=by
 refine⟨?_,XGF S⟩
 obtain⟨g,t,cs,fuel,p,h1,h2,h3,h4⟩:=Lib.laidMet.reads hL hm
 obtain rfl:=Option.some.inj (XGD.symm.trans h1)
 obtain rfl:=Option.some.inj (XHN.symm.trans h2)
 rw [XHM]at h4
 have e:=Lib.cells_of_tab (n:=20) (e:=223) Tryz.underlying270 Tryz.underlying223 (by kernel_rfl) (by kernel_rfl) h4
 unfold World.var? at h3
 rw [XGD]at h3
 simp only [Option.bind_some]at h3
 split at h3
 ·
  rename_i c t' f e3
  cases h3
  refine⟨t',f,?_⟩
  rw [e3]
  have:cs=cs.toList.toArray:=by simp
  rw [this,e]
 · cases h3
end Go.Proofs.YtmmmjbipgngamaaGreatDoor

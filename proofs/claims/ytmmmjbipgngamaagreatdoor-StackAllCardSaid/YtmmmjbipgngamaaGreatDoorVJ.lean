/-
  What is proved here: one operation of a plain interpreter of Go code, whatever it is, is matched by the machine's (part J what a plain interpreter of Go code comes to in a body, or in a call, the machine comes to (part K). No conditions but those that the theorems state.
-/
import Derived.Test.YtmmmjbipgngamaaGreatDoorVH
import Derived.Sort.LoopGhostIn
set_option linter.unusedVariables false
set_option linter.unusedSimpArgs false
namespace Go.Vai
noncomputable section
theorem X0J {h h':Heap} {o:Option Value} {v:Value} (e:X1p h o=some (v,h')):o=some v∧h'=h:=by
 unfold X1p at e
 split at e
 · cases e;exact⟨rfl,rfl⟩
 · cases e
def XE4 (ρ:Rho) (w:World) (a:Act) (o:Oper) (v:Value) (h':Heap) (next:Act→World→Prop):Prop :=
 ∀ v' ρ' w',X0N ρ' v v'→X0f ρ' h' w'→X2H ρ ρ' w→Fr ρ w w'→next (a.put o.dst v') w'
def X30 (F:Fence):Prop:=F=Fence.wide∨∃ l,F=Fence.wide.inRound l
theorem X30.fn {F:Fence} (h:X30 F) (f:FuncId):F.fn f:=by
 rcases h with rfl | ⟨l,rfl⟩<;>exact trivial
theorem X30.calls {F:Fence} (h:X30 F) {n:Nat} {P:Program} {f:FuncId} {args:Array Value} {w:World} {R:Ending→World→Prop} (k:Calls P f args w R):CallsIn F n P f args w R:=by
 rcases h with rfl | ⟨l,rfl⟩
 · exact callsIn_wide.2 k
 ·
  have:=(callsIn_wide (n:=n)).2 k
  exact this
theorem X30.depth {F:Fence} (h:X30 F) {p:Prop}:F.depth.isSome=true→p:=by
 rcases h with rfl | ⟨l,rfl⟩<;>(intro x;cases x)
theorem X30.round {F:Fence} (h:X30 F) {n:Nat} {P:Program} {l:Nat} {f:FuncId} {tmps:Array Value} {assign body:Code} {w:World} {R:Ending→World→Prop} (k:RoundIn Fence.wide n P l f tmps assign body w R):RoundIn F n P l f tmps assign body w R:=by
 rcases h with rfl | ⟨l,rfl⟩
 · exact k
 · exact k
section
variable {P:Program} {F:Fence} {n:Nat} {ρ:Rho} {h h':Heap} {w:World} {a:Act} {o:Oper} {v:Value} {next:Act→World→Prop} {Q:Exit→Act→World→Prop}
theorem X1P (hF:X30 F) {s:Sem Value} (he:execOp a.eval o=(do pure (.value (← s)))) (k:SM P ρ w s v h') (N:XE4 ρ w a o v h' next) (hd:∀ c,o.op≠.defer c:=by simp):o.wpIn F n P a w next Q:=by
 obtain⟨v',ρ',w',h1,h2,h3,h4,h5⟩:=k
 refine⟨fun f _=>hF.fn f,?_⟩
 rw [Oper.semAt_eq _ _ _ hd,he,Sem.run_bind,h1]
 exact N v' ρ' w' h2 h3 h4 h5
theorem X1A (hF:X30 F) (H:X0f ρ h w) {s:Sem Value} (he:execOp a.eval o=(do pure (.value (← s)))) (k:SP P ρ s v) (N:XE4 ρ w a o v h next) (hd:∀ c,o.op≠.defer c:=by simp):o.wpIn F n P a w next Q :=
 X1P hF he (k.toSM H) N hd
theorem X2E (hF:X30 F) (H:X0f ρ h w) {x:Value} (he:execOp a.eval o=pure (.value x)) (k:X0N ρ v x) (N:XE4 ρ w a o v h next) (hd:∀ c,o.op≠.defer c:=by simp):o.wpIn F n P a w next Q:=by
 refine⟨fun f _=>hF.fn f,?_⟩
 rw [Oper.semAt_eq _ _ _ hd,he]
 exact N x ρ w k H (.refl _ _) (.refl _ _)
end
theorem F2.map_toList {ρ:Rho} {vs:List Value} {xs:Array Operand} {f:Operand→Value} (h:F2 (X0N ρ) vs (xs.toList.map f)):F2 (X0N ρ) vs (xs.map f).toList:=by simpa using h
theorem XAn {ρ:Rho} {v v':Value} (h:XE1 v=true) (r:X0N ρ v v'):X9y ρ v v':=by
 unfold XE1 at h
 rw [Bool.or_eq_true]at h
 rcases h with h | h
 · have:=r.eq_of_plain h;subst this;exact .plain h
 ·
  split at h
  · obtain⟨I,hb,rfl⟩:=r.ptr_inv;exact .ptr hb
  ·
   cases r.leaf (by simp) (by simp)with
   | plain hp=>simp [X03]at hp
   | yld hb=>exact .yld hb
  · cases h
theorem X8A {ρ:Rho} {l m:List Value} (h:F2 (X0N ρ) l m):l.all XE1=true→F2 (X9y ρ) l m:=by
 induction h with
 | nil=>intro _;exact .nil
 | cons h t ih =>
  intro hp
  simp only [List.all_cons,Bool.and_eq_true]at hp
  exact .cons (XAn hp.1 h) (ih hp.2)
theorem F2.eq_of_all {ρ:Rho} {l m:List Value} (h:F2 (X0N ρ) l m):l.all X01=true→m=l:=by
 induction h with
 | nil=>intro _;rfl
 | cons h t ih =>
  intro hp
  simp only [List.all_cons,Bool.and_eq_true]at hp
  rw [h.eq_of_cellsPlain hp.1,ih hp.2]
theorem X9C {P:Program} {w:World}:∀ (fs:List Field) (places:List (Nat×Nat)),fs.mapM (fun f=>(sz P f.type).map fun n=>(f.offset,n))=some places →
  (fs.mapM (m:=Sem) fun f=>do pure (f.offset,← sizeOf f.type)).run P w=.ok places w:=by
 intro fs
 induction fs with
 | nil=>intro places h;simp at h;subst h;rfl
 | cons f fs ih =>
  intro places h
  simp only [List.mapM_cons,Option.bind_eq_bind,Option.bind_eq_some_iff,Option.map_eq_some_iff,Option.pure_def,Option.some.injEq]at h
  obtain⟨p,⟨n,hn,rfl⟩,ps,hps,rfl⟩:=h
  simp only [List.mapM_cons,Sem.run_bind,X0g hn,Result.andThen_ok,Sem.run_pure,ih ps hps]
theorem X8B {P:Program} {ρ:Rho} {t:TypeId} {parts:List (Nat×Value)} {parts':Array (Nat×Value)} {v:Value} (e:X6W P t parts=some v) (r:F2 (fun p p'=>p.1=p'.1∧X0N ρ p.2 p'.2) parts parts'.toList):SP P ρ (Instr.build t parts') v:=by
 unfold X6W at e
 split at e
 case h_2=>cases e
 rename_i z hz
 have hzr:F2 (X13 ρ) z.cells.toList z.cells.toList:=F2.refl _ fun x hx=>.plain (List.all_eq_true.1 (X1S (X0W hz)) x hx)
 split at e
 ·
  rename_i fields hu
  split at e
  case h_2=>cases e
  rename_i places hp
  split at e
  case h_2=>cases e
  rename_i l hl
  cases e
  obtain⟨l',q1,q2,_⟩:=X2n parts parts'.toList _ l z.cells hl r hzr
  refine⟨.agg l',fun w=>?_,.one (.agg q2)⟩
  have hm:=X9C (P:=P) (w:=w) fields.toList places hp
  have hm2:(fields.mapM (m:=Sem) fun f=>do pure (f.offset,← sizeOf f.type)).run P w=.ok places.toArray w:=by
   rw [Array.mapM_eq_mapM_toList,Sem.run_map,hm];rfl
  simp only [Instr.build,Sem.run_bind,X1a hz,Result.andThen_ok,X00 hu,hm2]
  rw [q1];rfl
 ·
  rename_i n elem hu
  split at e
  case h_2=>cases e
  rename_i size hs
  split at e
  case h_2=>cases e
  rename_i l hl
  cases e
  obtain⟨l',q1,q2,_⟩:=X2n parts parts'.toList _ l z.cells hl r hzr
  refine⟨.agg l',fun w=>?_,.one (.agg q2)⟩
  simp only [Instr.build,Sem.run_bind,X1a hz,Result.andThen_ok,X00 hu,X0g hs]
  rw [q1];rfl
 · cases e
theorem XAo {P:Program} {ρ:Rho} {argTypes:Array TypeId} {ty:TypeId} {x x' v:Value} (e:XGL P argTypes ty x=some v) (r:X0N ρ x x'):SP P ρ (Builtin.len_ argTypes ty #[x']) v:=by
 unfold XGL at e
 split at e
 case h_2=>cases e
 rename_i t ht
 split at e
 ·
  rename_i el bs n c hu
  cases e
  refine⟨.int .i64 n,fun w=>?_,.plain rfl⟩
  cases r.leaf (by simp) (by simp)with
  | plain hp=>simp [Builtin.len_,ht,X00 hu,goInt]
  | slice=>simp [Builtin.len_,ht,X00 hu,goInt]
  | sliceE=>simp [Builtin.len_,ht,X00 hu,goInt]
 ·
  rename_i s hu
  cases e
  have:=r.eq_of_plain rfl;subst this
  exact⟨.int .i64 s.size,fun w=>by simp [Builtin.len_,ht,X00 hu,goInt],.plain rfl⟩
 ·
  rename_i n el hu
  cases e
  exact⟨.int .i64 n,fun w=>by simp [Builtin.len_,ht,X00 hu,goInt],.plain rfl⟩
 · cases e
theorem X8C {P:Program} {F:Fence} (hF:X30 F) {n:Nat} {call:X0D} (hcall:X5i P call) {ρ:Rho} {h h':Heap} {w:World} {a:Act} {o:Oper} {tm:Tr Value} {v:Value} {next:Act→World→Prop} {Q:Exit→Act→World→Prop}
  (H:X0f ρ h w) (T:X5Q ρ tm a.tmps) (e:X05 P call o tm h=some (v,h')) (N:XE4 ρ w a o v h' next):o.wpIn F n P a w next Q:=by
 obtain⟨dst,op,ty,pos,after,guard⟩:=o
 unfold X05 at e
 cases op with
 | move x =>
  obtain⟨e1,rfl⟩:=X0J e
  exact X2E hF H rfl (X08 H T e1) N
 | assign x =>
  obtain⟨e1,rfl⟩:=X0J e
  exact X2E hF H rfl (X08 H T e1) N
 | pick c x y =>
  simp only at e
  split at e
  ·
   rename_i hc
   obtain⟨e1,rfl⟩:=X0J e
   have hc':=X0N.eq_of_plain (X08 H T hc) rfl
   refine X2E (x:=a.eval x) hF H ?_ (X08 H T e1) N
   simp [execOp,hc',asBool]
  ·
   rename_i hc
   obtain⟨e1,rfl⟩:=X0J e
   have hc':=X0N.eq_of_plain (X08 H T hc) rfl
   refine X2E (x:=a.eval y) hF H ?_ (X08 H T e1) N
   simp [execOp,hc',asBool]
  · cases e
 | alloc elem=>exact X1P hF rfl (X7y (P:=P) H e) N
 | box elem x =>
  simp only at e
  split at e
  · rename_i u hu;exact X1P hF rfl (X6S (P:=P) H e (X08 H T hu)) N
  · cases e
 | build t parts =>
  simp only at e
  split at e
  ·
   rename_i ps hps
   obtain⟨e1,rfl⟩:=X0J e
   exact X1A hF H rfl (X8B e1 (by have:=X4Q H T hps;simpa using this)) N
  · cases e
 | buildSlice t len parts =>
  simp only at e
  split at e
  ·
   rename_i ps hps
   exact X1P hF rfl (X4M (P:=P) H e (by have:=X4Q H T hps;simpa using this)) N
  · cases e
 | load t x =>
  simp only at e
  split at e
  ·
   rename_i u hu
   obtain⟨e1,rfl⟩:=X0J e
   obtain⟨v',q1,q2⟩:=X5b (P:=P) H e1 (X08 H T hu)
   exact X1P hF rfl ⟨v',ρ,w,q1,q2,H,.refl _ _,.refl _ _⟩ N
  · cases e
 | store t x y =>
  simp only at e
  split at e
  ·
   rename_i va vx ha hx
   split at e
   ·
    rename_i h₁ hs
    cases e
    obtain⟨w',q1,q2,q3⟩:=X80 (P:=P) H hs (X08 H T ha) (X08 H T hx)
    refine⟨fun f _=>hF.fn f,?_⟩
    have:(execOp a.eval ⟨dst,.store t x y,ty,pos,after,guard⟩).run P w=.ok .skip w':=by
     simp [execOp,q1]
    rw [Oper.semAt_eq _ _ _ (by simp),this]
    exact N undef ρ w' (.tuple .nil) q2 (.refl _ _) q3
   · cases e
  · cases e
 | nilCheck x =>
  simp only at e
  split at e
  ·
   rename_i b i hx
   cases e
   obtain⟨I,hb,hx'⟩:=(X08 H T hx).ptr_inv
   refine X2E (x:=.pointer (some ⟨I.g,I.o+i,none⟩)) hF H ?_ (.ptr hb) N
   simp [execOp,hx']
  ·
   rename_i f fi ca hx
   cases e
   have r:=X08 H T hx
   obtain⟨fi',ca',hx'⟩:=r.funcF
   rw [hx']at r
   refine X2E (x:=.func (.func f) fi' ca') hF H ?_ r N
   simp [execOp,hx']
  · cases e
 | binOp op t x y yt =>
  simp only at e
  split at e
  ·
   rename_i vx vy hx hy
   obtain⟨e1,rfl⟩:=X0J e
   exact X1A hF H rfl (XAj e1 (X08 H T hx) (X08 H T hy)) N
  · cases e
 | unOp op t x =>
  simp only at e
  split at e
  ·
   rename_i u hu
   split at e
   ·
    rename_i hp
    obtain⟨e1,rfl⟩:=X0J e
    have hx':=(X08 H T hu).eq_of_cellsPlain hp
    exact X1A (s:=Op.unary op u) hF H (by simp [execOp,hx']) (X0i e1) N
   · cases e
  · cases e
 | convert s d x =>
  simp only at e
  split at e
  · rename_i u hu;exact X1P hF rfl (X66 (P:=P) H e (X08 H T hu)) N
  · cases e
 | makeInterface t x =>
  simp only at e
  split at e
  ·
   rename_i u hu
   split at e
   ·
    rename_i hp
    obtain⟨e1,rfl⟩:=X0J e
    have hx':=(X08 H T hu).eq_of_cellsPlain hp
    exact X1A (s:=Instr.makeInterface t u) hF H (by simp [execOp,hx']) (X0i e1) N
   · cases e
  · cases e
 | makeFunc fn fi ca =>
  simp only at e
  split at e
  ·
   rename_i l m hl hm
   split at e
   ·
    rename_i hp
    simp only [Bool.and_eq_true]at hp
    obtain⟨hp,hfn⟩:=hp
    cases e
    obtain⟨g,rfl⟩:∃ g,fn=.func g:=by
     cases fn<;>first | exact⟨_,rfl⟩ | cases hfn
    refine X2E (x:=.func (.func g) (fi.map a.eval) (ca.map a.eval)) hF H rfl ?_ N
    refine .one (.one (.func ?_ ?_))
    · have:=X8A (X0w H T hl) hp.1;simpa using this
    · have:=X8A (X0w H T hm) hp.2;simpa using this
   · cases e
  · cases e
 | makeSlice t l c =>
  simp only at e
  split at e
  ·
   rename_i vl vc hl hc
   exact X1P hF rfl (X4k (P:=P) H e (X08 H T hl) (X08 H T hc)) N
  · cases e
 | slice t x lo hi mx =>
  simp only at e
  split at e
  ·
   rename_i u l m k hu hl hm hk
   obtain⟨e1,rfl⟩:=X0J e
   exact X1A hF H rfl (X7q H e1 (X08 H T hu) (X4P H T hl) (X4P H T hm) (X4P H T hk)) N
  · cases e
 | fieldAddr t x f =>
  simp only at e
  split at e
  ·
   rename_i u hu
   obtain⟨e1,rfl⟩:=X0J e
   exact X1A hF H rfl (X4i e1 (X08 H T hu)) N
  · cases e
 | field t x f =>
  simp only at e
  split at e
  ·
   rename_i u hu
   obtain⟨e1,rfl⟩:=X0J e
   exact X1A hF H rfl (X7r e1 (X08 H T hu)) N
  · cases e
 | indexAddr t x i =>
  simp only at e
  split at e
  ·
   rename_i u j hu hj
   obtain⟨e1,rfl⟩:=X0J e
   exact X1A hF H rfl (X4j e1 (X08 H T hu) (X08 H T hj)) N
  · cases e
 | index t x i =>
  simp only at e
  split at e
  ·
   rename_i u j hu hj
   obtain⟨e1,rfl⟩:=X0J e
   exact X1A hF H rfl (X7t e1 (X08 H T hu) (X08 H T hj)) N
  · cases e
 | range t x =>
  simp only at e
  split at e
  · rename_i u hu;exact X1P hF rfl (X89 (P:=P) H e (X08 H T hu)) N
  · cases e
 | next it isString =>
  simp only at e
  split at e
  · rename_i u hu;exact X1P hF rfl (X98 (P:=P) H e (X08 H T hu)) N
  · cases e
 | extract x i =>
  simp only at e
  split at e
  ·
   rename_i u hu
   obtain⟨e1,rfl⟩:=X0J e
   exact X1A hF H rfl (X63 e1 (X08 H T hu)) N
  · cases e
 | call c =>
  obtain⟨callee,args,argTypes⟩:=c
  simp only at e
  split at e
  ·
   split at e
   ·
    rename_i s x hl
    have r:=X0w H T hl
    have hargs:∃ s' x',args.map a.eval=#[s',x']∧X0N ρ s s'∧X0N ρ x x':=by
     generalize hm:args.toList.map a.eval=m at r
     cases r with
     | cons r1 r2=>cases r2 with
      | cons r2 r3=>cases r3;exact⟨_,_,Array.toList_inj.1 (by simpa using hm),r1,r2⟩
    obtain⟨s',x',ha,rs,rx⟩:=hargs
    refine X1P hF (s:=Builtin.append_ argTypes ty #[s',x']) ?_ (X7A (P:=P) H e rs rx) N
    simp [execOp,resolve,invoke,builtin,ha]
   · cases e
  ·
   split at e
   ·
    rename_i s x hl
    have r:=X0w H T hl
    have hargs:∃ s' x',args.map a.eval=#[s',x']∧X0N ρ s s'∧X0N ρ x x':=by
     generalize hm:args.toList.map a.eval=m at r
     cases r with
     | cons r1 r2=>cases r2 with
      | cons r2 r3=>cases r3;exact⟨_,_,Array.toList_inj.1 (by simpa using hm),r1,r2⟩
    obtain⟨s',x',ha,rs,rx⟩:=hargs
    refine X1P hF (s:=Builtin.copy_ argTypes ty #[s',x']) ?_ (X96 (P:=P) H e rs rx) N
    simp [execOp,resolve,invoke,builtin,ha]
   · cases e
  ·
   split at e
   ·
    rename_i x hl
    have r:=X0w H T hl
    have hargs:∃ x',args.map a.eval=#[x']∧X0N ρ x x':=by
     generalize hm:args.toList.map a.eval=m at r
     cases r with
     | cons r1 r2=>cases r2;exact⟨_,Array.toList_inj.1 (by simpa using hm),r1⟩
    obtain⟨x',ha,rx⟩:=hargs
    refine X1P hF (s:=Builtin.clear_ argTypes ty #[x']) ?_ (X87 (P:=P) H e rx) N
    simp [execOp,resolve,invoke,builtin,ha]
   · cases e
  ·
   split at e
   ·
    rename_i x hl
    obtain⟨e1,rfl⟩:=X0J e
    have r:=X0w H T hl
    have hargs:∃ x',args.map a.eval=#[x']∧X0N ρ x x':=by
     generalize hm:args.toList.map a.eval=m at r
     cases r with
     | cons r1 r2=>cases r2;exact⟨_,Array.toList_inj.1 (by simpa using hm),r1⟩
    obtain⟨x',ha,rx⟩:=hargs
    refine X1A (s:=Builtin.cap_ argTypes ty #[x']) hF H ?_ (XAl e1 rx) N
    simp [execOp,resolve,invoke,builtin,ha]
   · cases e
  ·
   split at e
   ·
    rename_i x hl
    obtain⟨e1,rfl⟩:=X0J e
    have r:=X0w H T hl
    have hargs:∃ x',args.map a.eval=#[x']∧X0N ρ x x':=by
     generalize hm:args.toList.map a.eval=m at r
     cases r with
     | cons r1 r2=>cases r2;exact⟨_,Array.toList_inj.1 (by simpa using hm),r1⟩
    obtain⟨x',ha,rx⟩:=hargs
    refine X1A (s:=Builtin.len_ argTypes ty #[x']) hF H ?_ (XAo e1 rx) N
    simp [execOp,resolve,invoke,builtin,ha]
   · cases e
  ·
   split at e
   ·
    rename_i l hl
    split at e
    ·
     rename_i hp
     obtain⟨e1,rfl⟩:=X0J e
     have hm:=(X0w H T hl).eq_of_all hp
     have ha:args.map a.eval=l.toArray:=Array.toList_inj.1 (by simpa using hm)
     refine X1A (s:=Builtin.min_ argTypes ty l.toArray) hF H ?_ (X0i e1) N
     simp [execOp,resolve,invoke,builtin,ha]
    · cases e
   · cases e
  ·
   split at e
   ·
    rename_i l hl
    split at e
    ·
     rename_i hp
     obtain⟨e1,rfl⟩:=X0J e
     have hm:=(X0w H T hl).eq_of_all hp
     have ha:args.map a.eval=l.toArray:=Array.toList_inj.1 (by simpa using hm)
     refine X1A (s:=Builtin.max_ argTypes ty l.toArray) hF H ?_ (X0i e1) N
     simp [execOp,resolve,invoke,builtin,ha]
    · cases e
   · cases e
  ·
   rename_i f
   split at e
   ·
    rename_i g fi ca l hf hl
    split at e
    case h_2=>cases e
    rename_i fn hfn
    split at e
    case h_1=>cases e
    rename_i hng
    have rf:=X08 H T hf
    have rl:=X0w H T hl
    have hfun:∃ fi' ca',a.eval f=.func (.func g) fi' ca'∧F2 (X0N ρ) fi.toList fi'.toList∧F2 (X0N ρ) ca.toList ca'.toList:=by
     obtain⟨fi',ca',hx'⟩:=rf.funcF
     rw [hx']at rf
     refine⟨fi',ca',hx',?_⟩
     cases rf.leaf (by simp) (by simp)with
     | plain hp=>simp [X03]at hp;obtain⟨e1,e2⟩:=hp;subst e1 e2;exact⟨.nil,.nil⟩
     | func p1 p2=>exact⟨p1.mono fun _ _ x=>.one (.one x.toL),p2.mono fun _ _ x=>.one (.one x.toL)⟩
    obtain⟨fi',ca',hx',r1,r2⟩:=hfun
    have hall:F2 (X0N ρ) (fi.toList++l++ca.toList) (fi'++args.map a.eval++ca').toList:=by
     have:=(r1.append rl).append r2
     simpa using this
    have hexec:execOp a.eval ⟨dst,.call ⟨.value f,args,argTypes⟩,ty,pos,after,guard⟩=callFunc g (fi'++args.map a.eval++ca'):=by
     simp only [execOp,resolve,Deferred.ofValue,hx',pure_bind];rfl
    split at e
    ·
     rename_i c hb
     have hrun:(callFunc g (fi'++args.map a.eval++ca')).run P w=.ok (.enter g (fi'++args.map a.eval++ca')) w:=by
      have hng':¬ fn.name = "runtime.NumGoroutine" := by simpa using hng
      simp [callFunc,hfn,hng',hb]
     refine⟨fun f _=>hF.fn f,?_⟩
     rw [Oper.semAt_eq _ _ _ (by simp),hexec,hrun,Oper.uponIn_enter]
     refine⟨hF.depth,(hF.calls (hcall.f g _ h v h' e ρ w _ H hall)).mono ?_⟩
     rintro e' w' ⟨v',ρ',rfl,q1,q2,q3,q4⟩
     exact N v' ρ' w' q1 q2 q3 q4
    ·
     split at e
     case h_2=>cases e
     rename_i hp
     split at e
     case h_2=>cases e
     rename_i u hu
     split at e
     case h_2=>cases e
     rename_i hpu
     cases e
     have hm:=hall.eq_of_all hp
     have ha:(fi'++args.map a.eval++ca')=(fi.toList++l++ca.toList).toArray:=Array.toList_inj.1 (by simpa using hm)
     have hr:=XA1 _ hu w
     refine⟨fun f _=>hF.fn f,?_⟩
     rw [Oper.semAt_eq _ _ _ (by simp),hexec,ha,hr]
     exact N v ρ w (.of_cellsPlain hpu) H (.refl _ _) (.refl _ _)
   ·
    rename_i b _ _ l hf hl
    have rl:=X0w H T hl
    obtain⟨I,hb,hx'⟩:=(X08 H T hf).funcY
    obtain⟨r,hr,hs,hround⟩:=hcall.y b _ h v h' e ρ w (args.map a.eval) I H hb rl.map_toList
    have hexec:execOp a.eval ⟨dst,.call ⟨.value f,args,argTypes⟩,ty,pos,after,guard⟩=Instr.yield I.g (args.map a.eval):=by
     simp only [execOp,resolve,Deferred.ofValue,hx',pure_bind]
     simp [invoke]
    refine⟨fun f _=>hF.fn f,?_⟩
    rw [Oper.semAt_eq _ _ _ (by simp),hexec,run_yield hr hs,Oper.uponIn_round]
    refine⟨hF.depth,(hF.round (hround (n - 1))).mono ?_⟩
    rintro e' w' ⟨v',ρ',rfl,q1,q2,q3,q4⟩
    exact N v' ρ' w' q1 q2 q3 q4
   · cases e
  · cases e
 | _=>cases e
end
end Go.Vai
namespace Go.Vai
noncomputable section
theorem X0N.bool_back {ρ:Rho} {v:Value} {b:Bool} (r:X0N ρ v (.bool b)):v=.bool b:=by
 cases r with
 | one k=>cases k with
  | one k=>cases k with
   | plain h=>rfl
theorem X3X (a:Act) (dst:Option Tmp) (v:Value):(a.put dst v).tmps.size=a.tmps.size:=by
 cases dst<;>simp [Act.put]
theorem X2g (a:Act) (dst:Option Tmp) (v:Value):(a.put dst v).defers=a.defers:=by
 cases dst<;>rfl
theorem X5Q.put {ρ:Rho} {tm:Tr Value} {a:Act} {nt:Nat} (T:X5Q ρ tm a.tmps) (hn:a.tmps.size=nt) (hs:nt<1000000) {v v':Value} (r:X0N ρ v v') (dst:Option Nat):X5Q ρ (X3U nt tm dst v) (a.put dst v').tmps:=by
 intro t
 cases dst with
 | none=>exact T t
 | some d =>
  simp only [X3U]
  split
  ·
   rename_i hd
   have hd:d<nt:=by simpa using hd
   by_cases e:t=d
   ·
    subst e
    rw [Tr.get_put_same (by omega)]
    have:(a.put (some t) v').tmps.getD t undef=v':=by
     simp [Act.put,Array.getD_eq_getD_getElem?,Array.getElem?_setIfInBounds]
     rw [if_pos (by omega)];rfl
    rw [this];exact r
   ·
    rw [Tr.get_put_other e]
    have:(a.put (some d) v').tmps.getD t undef=a.tmps.getD t undef:=by
     simp only [Act.put,Array.getD_eq_getD_getElem?,Array.getElem?_setIfInBounds]
     rw [if_neg (fun x=>e x.symm)]
    rw [this];exact T t
  ·
   rename_i hd
   have hd:¬ d<nt:=fun hx=>by
    have hy:Nat.blt d nt=true:=by simpa using hx
    rw [hy]at hd;cases hd
   have:(a.put (some d) v').tmps=a.tmps:=by
    simp only [Act.put];exact Array.setIfInBounds_eq_of_size_le (by omega)
   rw [this];exact T t
theorem X8D {ρ:Rho} {tm:Tr Value} {a:Act} {ops:Array Oper} (T:X5Q ρ tm a.tmps):X0b ops tm=yielded ops a.tmps:=by
 funext j
 unfold X0b yielded
 cases hd:(ops[j]?).bind (·.dst)with
 | none=>simp
 | some d =>
  simp only [Option.bind_some]
  have r:=T d
  rw [Array.getD_eq_getD_getElem?]at r
  cases ht:a.tmps[d]? with
  | none =>
   rw [ht]at r
   simp only [Option.getD_none]at r
   generalize hv:(tm.get d).getD undef=v at r
   cases v with
   | bool b=>have:=r.eq_of_plain rfl;cases this
   | _=>rfl
  | some x =>
   rw [ht]at r
   simp only [Option.getD_some]at r
   generalize hv:(tm.get d).getD undef=v at r
   cases x with
   | bool b=>have:=r.bool_back;subst this;rfl
   | _=>cases v with
    | bool b=>have:=r.eq_of_plain rfl;cases this
    | _=>rfl
def mark (D:Nat):Deferred:={ target:=.collected D,args:=#[] }
structure X6Y (n0:Nat) (ρ:Rho) (w:World) (D:Nat):Prop where
 lo:n0≤D
 at_:w.heap[D]?=some (.deferred (some []))
 un:∀ b I,ρ b=some I→I.g≠D
def XE5 (n0:Nat) (ρ:Rho) (w:World) (ds:List Deferred):Prop:=∃ Ds:List Nat,ds=Ds.map mark∧Ds.Nodup∧∀ D∈Ds,X6Y n0 ρ w D
theorem X6Y.go {n0:Nat} {ρ ρ':Rho} {w w':World} {D:Nat} (h:X6Y n0 ρ w D) (g:X2H ρ ρ' w) (f:Fr ρ w w'):X6Y n0 ρ' w' D:=by
 have hlt:D<w.heap.size:=(Array.getElem?_eq_some_iff.1 h.at_).1
 refine⟨h.lo,?_,?_⟩
 · rw [f.keep D hlt h.un];exact h.at_
 ·
  intro b I e
  rcases g.new b I e with hb | ⟨b₀,I₀,e₀,eg⟩
  · omega
  · rw [← eg];exact h.un b₀ I₀ e₀
theorem XE5.go {n0:Nat} {ρ ρ':Rho} {w w':World} {ds:List Deferred} (h:XE5 n0 ρ w ds) (g:X2H ρ ρ' w) (f:Fr ρ w w'):XE5 n0 ρ' w' ds:=by
 obtain⟨Ds,h1,h2,h3⟩:=h
 exact⟨Ds,h1,h2,fun D hD=>(h3 D hD).go g f⟩
theorem XE5.nil {n0:Nat} {ρ:Rho} {w:World}:XE5 n0 ρ w []:=⟨[],rfl,.nil,by simp⟩
structure X6Z (n0:Nat) (ρ:Rho) (nt:Nat) (st:St) (a:Act) (w:World):Prop where
 h:X0f ρ st.h w
 t:X5Q ρ st.tm a.tmps
 d:XE5 n0 ρ w a.defers
 n:a.tmps.size=nt
 s:nt<1000000
 z:n0≤w.heap.size
def X67 (n0:Nat) (ρ:Rho) (w:World) (nt:Nat) (st:St) (a':Act) (w':World):Prop:=∃ ρ',X2H ρ ρ' w∧Fr ρ w w'∧X6Z n0 ρ' nt st a' w'
def X.toExit:X→Exit
 | .normal=>.normal
 | .exit id=>.exit id
 | .ret=>.ret
def X4n (n0:Nat) (ρ:Rho) (w:World) (nt:Nat) (x:X) (st:St):Exit→Act→World→Prop:=fun e a' w'=>e=x.toExit∧X67 n0 ρ w nt st a' w'
theorem X67.refl {n0:Nat} {ρ:Rho} {nt:Nat} {st:St} {a:Act} {w:World} (S:X6Z n0 ρ nt st a w):X67 n0 ρ w nt st a w:=⟨ρ,.refl _ _,.refl _ _,S⟩
theorem X67.trans {n0:Nat} {ρ ρ₁:Rho} {nt:Nat} {st:St} {w w₁:World} {a':Act} {w':World} (g:X2H ρ ρ₁ w) (f:Fr ρ w w₁) (k:X67 n0 ρ₁ w₁ nt st a' w'):X67 n0 ρ w nt st a' w':=by
 obtain⟨ρ',g',f',S⟩:=k
 exact⟨ρ',g.trans f.size g',f.trans g f',S⟩
theorem X2F {P:Program} {F:Fence} (hF:X30 F) {n:Nat} {call:X0D} (hcall:X5i P call) {n0:Nat} {ρ:Rho} {nt:Nat} {ops:Array Oper} {o:Oper} {st st':St} {a:Act} {w:World} (S:X6Z n0 ρ nt st a w)
  (e:X1d P call nt ops o st=some st') (K:Act→World→Prop) (hK:∀ a' w',X67 n0 ρ w nt st' a' w'→K a' w') (Q:Exit→Act→World→Prop) :
  (if Region.wanted o (yielded ops a.tmps)then o.wpIn F n P a w K Q else(∀ f,o.about P w a.eval=some f→F.fn f)∧K (a.put o.dst undef) w):=by
 unfold X1d at e
 rw [X8D S.t]at e
 cases hw:Region.wanted o (yielded ops a.tmps)with
 | false =>
  rw [hw]at e
  simp only [Option.some.injEq]at e
  subst e
  simp only [Bool.false_eq_true,if_false]
  exact⟨fun f _=>hF.fn f,hK _ _ ⟨ρ,.refl _ _,.refl _ _,S.h,S.t.put S.n S.s (.tuple .nil) o.dst,by rw [X2g];exact S.d,by rw [X3X];exact S.n,S.s,S.z⟩⟩
 | true =>
  rw [hw]at e
  simp only at e
  split at e
  ·
   rename_i v h' hs
   cases e
   simp only [if_true]
   refine X8C hF hcall S.h S.t hs ?_
   intro v' ρ' w' r H' g f
   exact hK _ _ ⟨ρ',g,f,H',(S.t.ext g.ext).put S.n S.s r o.dst,by rw [X2g];exact S.d.go g f,by rw [X3X];exact S.n,S.s,Nat.le_trans S.z f.size⟩
  · cases e
theorem X7C {P:Program} {F:Fence} (hF:X30 F) {n:Nat} {call:X0D} (hcall:X5i P call) {n0 nt:Nat} {ops:Array Oper} {Q:Exit→Act→World→Prop}:∀ (k i:Nat) (ρ:Rho) (st st':St) (a:Act) (w:World),i+k=ops.size→X6Z n0 ρ nt st a w →
  X11 P call nt ops (ops.toList.drop i) st=some st'→(∀ a' w',X67 n0 ρ w nt st' a' w'→Q .normal a' w')→wpOpsIn F n P ops Q (List.range' i k) a w:=by
 intro k
 induction k with
 | zero =>
  intro i ρ st st' a w hi S e hQ
  rw [List.drop_of_length_le (by simp;omega)]at e
  simp only [X11,Option.some.injEq]at e
  subst e
  exact hQ a w (.refl S)
 | succ k ih =>
  intro i ρ st st' a w hi S e hQ
  have hlt:i<ops.size:=by omega
  rw [List.drop_eq_getElem_cons (by simpa using hlt)]at e
  simp only [X11]at e
  split at e
  case h_2=>cases e
  rename_i st₁ h1
  rw [List.range'_succ,wpOpsIn_cons]
  unfold wpOpIn
  have ho:ops[i]?=some ops.toList[i]:=by simp [hlt]
  rw [ho]
  refine X2F hF hcall S h1 _ ?_ Q
  intro a' w' hl
  obtain⟨ρ',g,f,S'⟩:=hl
  exact ih (i+1) ρ' st₁ st' a' w' (by omega) S' e fun a2 w2 h2=>hQ a2 w2 (X67.trans g f h2)
def XHB (P:Program) (dr:X0D→Nat→Array Oper→St→Option St):Prop :=
 ∀ call,X5i P call→∀ id nt ops st st',dr call nt ops st=some st'→∀ F,X30 F→∀ n n0 ρ a w,X6Z n0 ρ nt st a w→(Code.region id ops true).wpIn F n P (X4n n0 ρ w nt .normal st') a w
def resF (tmps:Array Value):ResultVar→Sem Value
 | .tmp t=>pure (tmps.getD t undef)
 | .cell b t=>do loadVar t (← asAddr (tmps.getD b undef))
theorem X6a (fn:Func) (tmps:Array Value):results fn tmps=(do
  let vs ← fn.results.mapM (resF tmps)
  pure (if h:vs.size=1 then vs[0]else .tuple vs)):=rfl
theorem X7D {P:Program} {ρ:Rho} {st:St} {tmps:Array Value} {w:World} (Sh:X0f ρ st.h w) (St:X5Q ρ st.tm tmps) {r:ResultVar} {v:Value} (e:X5l P st r=some v) :
  ∃ v',(resF tmps r).run P w=.ok v' w∧X0N ρ v v':=by
 cases r with
 | tmp t=>simp only [X5l,Option.some.injEq]at e;subst e;exact⟨_,rfl,St t⟩
 | cell b t =>
  simp only [X5l]at e
  obtain⟨v',q1,q2⟩:=X5b (P:=P) Sh e (St b)
  refine⟨v',?_,q2⟩
  have hp:∃ x,tmps.getD b undef=.pointer (some x):=by
   unfold X44 at e
   split at e
   case h_2=>cases e
   rename_i b' i hx
   have r:=St b
   rw [hx]at r
   exact r.ptrSome
  obtain⟨x,hx⟩:=hp
  rw [hx]at q1
  simp only [resF,hx]
  simpa[Instr.loadAt,Instr.sureAddr,asAddr]using q1
theorem X3g {P:Program} {ρ:Rho} {st:St} {tmps:Array Value} {w:World} (Sh:X0f ρ st.h w) (St:X5Q ρ st.tm tmps):∀ (rs:List ResultVar) (vs:List Value),X2p P st rs=some vs →
  ∃ vs',(rs.mapM (m:=Sem) (resF tmps)).run P w=.ok vs' w∧F2 (X0N ρ) vs vs':=by
 intro rs
 induction rs with
 | nil=>intro vs e;simp only [X2p,Option.some.injEq]at e;subst e;exact⟨[],rfl,.nil⟩
 | cons r rs ih =>
  intro vs e
  simp only [X2p]at e
  split at e
  ·
   rename_i v us h1 h2
   cases e
   obtain⟨v',q1,q2⟩:=X7D Sh St h1
   obtain⟨us',p1,p2⟩:=ih us h2
   refine⟨v'::us',?_,.cons q2 p2⟩
   simp only [List.mapM_cons,Sem.run_bind]
   rw [q1]
   simp only [Result.andThen_ok,p1,Sem.run_pure]
  · cases e
theorem X68 {ρ:Rho} {l m:List Value} (h:F2 (X0N ρ) l m):l.all X3V=true→F2 (X62 ρ) l m:=by
 induction h with
 | nil=>intro _;exact .nil
 | cons h t ih =>
  intro hp
  simp only [List.all_cons,Bool.and_eq_true]at hp
  refine .cons ?_ (ih hp.2)
  cases h with
  | one k=>exact k
  | tuple k=>exact absurd hp.1 (by simp [X3V])
theorem X69 {P:Program} {fn:Func} {ρ:Rho} {st:St} {tmps:Array Value} {w:World} (Sh:X0f ρ st.h w) (St:X5Q ρ st.tm tmps) {v:Value} (e:X2q P fn st=some v) :
  ∃ v',(results fn tmps).run P w=.ok v' w∧X0N ρ v v':=by
 unfold X2q at e
 split at e
 ·
  rename_i u hu
  cases e
  obtain⟨vs',q1,q2⟩:=X3g Sh St _ _ hu
  cases q2 with
  | cons r1 r2 =>
   cases r2
   rename_i v'
   refine⟨v',?_,r1⟩
   rw [X6a,Array.mapM_eq_mapM_toList]
   simp only [Sem.run_bind,Sem.run_map]
   rw [q1]
   simp
 ·
  rename_i vs hvs hne
  split at e
  case h_2=>cases e
  rename_i hp
  cases e
  obtain⟨vs',q1,q2⟩:=X3g Sh St _ _ hne
  have hlen:=q2.length
  refine⟨.tuple vs'.toArray,?_,.tuple (X68 q2 hp)⟩
  rw [X6a,Array.mapM_eq_mapM_toList]
  simp only [Sem.run_bind,Sem.run_map]
  rw [q1]
  simp only [Result.andThen_ok,Sem.run_pure]
  rw [dif_neg]
  simp only [List.size_toArray]
  intro h1
  match vs,hlen with
  | [x],_=>exact hvs x rfl
  | [],hl=>simp at hl;omega
  | _::_::_,hl=>simp at hl;omega
 · cases e
def X6b (P:Program) (ex:X3f):Prop :=
 ∀ rd nt c st x st',ex rd nt c st=some (x,st')→∀ F,X30 F→(rd=false→F.round=none)→∀ n n0 ρ a w,X6Z n0 ρ nt st a w→c.wpIn F n P (X4n n0 ρ w nt x st') a w
theorem X0f.putMark {ρ:Rho} {h:Heap} {w:World} {D:Nat} {o:Obj} (H:X0f ρ h w) (hD:w.heap[D]?=some (.deferred (some []))) (no:X1l o=true) (un:∀ b I,ρ b=some I→I.g≠D):X0f ρ h (w.putObj D o):=by
 refine⟨⟨H.nx.1.go fun k hk=>World.putObj_heap_other (fun e=>by
  obtain⟨c,t,f,hc⟩:=H.nx.1.at hk
  rw [e,hD]at hc;cases hc),H.nx.2⟩,H.dom,?_,?_,H.one,H.fin,H.glob,fun b I L hb hL=>(H.lp b I L hb hL).go (Ext.refl ρ) fun o _ hr=>by rw [World.putObj_heap_other (un b I hb)];exact hr,H.ld,H.li,H.lz,fun b I r T e1 ez=>by
  obtain⟨s1,s2,s3,s4⟩:=H.st b I r T e1 ez
  exact⟨s1,s2,s3,fun B C h1 h2 ht=>by rw [World.putObj_heap_other (un b I e1)];exact s4 B C h1 h2 ht⟩⟩
 ·
  intro b I B e1 e2
  obtain⟨k1,k2,k3⟩:=H.img b I B e1 e2
  have hh:(w.putObj D o).heap[I.g]?=w.heap[I.g]?:=World.putObj_heap_other (un b I e1)
  exact⟨by simpa using k1,fun j ho hj=>by rw [cell?_of_heap hh];exact k2 j ho hj,fun hro j ho hj=>by rw [frozen?_of_heap hh];exact k3 hro j ho hj⟩
 ·
  intro b I B C e1 e2 e3 e4 i v hi hv
  rw [cell?_of_heap (World.putObj_heap_other (un b I e1))];exact H.val b I B C e1 e2 e3 e4 i v hi hv
theorem X8E {P:Program} {fn:Func} {tmps:Array Value} {ρ0 ρ:Rho} {h:Heap} {n:Nat} {R:Ending→World→Prop} {w0:World}:∀ (Ds:List Nat) (w:World),X0f ρ h w→Fr ρ0 w0 w→Ds.Nodup→(∀ D∈Ds,X6Y w0.heap.size ρ w D) →
  (∀ w',X0f ρ h w'→Fr ρ0 w0 w'→∃ v,(results fn tmps).run P w'=.ok v w'∧R (.returned v) w')→LeavesInM Fence.wide n P fn tmps R (Ds.map mark) .returning w:=by
 intro Ds
 induction Ds with
 | nil =>
  intro w H f _ _ k
  obtain⟨v,h1,h2⟩:=k w H f
  exact⟨v,h1,h2⟩
 | cons D Ds ih =>
  intro w H f nd hm k
  have hD:=hm D (by simp)
  have hlt:D<w.heap.size:=(Array.getElem?_eq_some_iff.1 hD.at_).1
  refine⟨by simp,.inl ⟨D,w.putObj D (.deferred none),rfl,run_takeDeferred hD.at_,?_⟩⟩
  simp only [List.nodup_cons]at nd
  refine ih _ (H.putMark hD.at_ rfl hD.un) (f.putObj (.inl hD.lo)) nd.2 ?_ k
  intro E hE
  have hne:E≠D:=by rintro rfl;exact nd.1 hE
  have:=hm E (by simp [hE])
  exact⟨this.lo,by rw [World.putObj_heap_other hne];exact this.at_,this.un⟩
theorem X6A {P:Program} {ex:X3f} (hex:X6b P ex) (f:FuncId):X2f P f (X4y P ex f):=by
 intro args h v h' e ρ w args' H hr
 unfold X4y at e
 split at e
 case h_2=>cases e
 rename_i fn hfn
 split at e
 case h_2=>cases e
 rename_i c hb
 split at e
 case h_2=>cases e
 rename_i hn
 have hn:max fn.ntmps args.length<1000000:=by simpa using hn
 have hlen:=hr.length
 simp only [Array.length_toList]at hlen
 have S0:X6Z w.heap.size ρ (max fn.ntmps args.length) ⟨X2z 0 .leaf args,h⟩ { tmps:=args'++Array.replicate (fn.ntmps - args'.size) undef,defers:=[] } w:=by
  refine⟨H,?_,.nil,by simp;omega,hn,Nat.le_refl _⟩
  intro t
  show X0N ρ (((X2z 0 .leaf args).get t).getD undef) ((args'++Array.replicate (fn.ntmps - args'.size) undef).getD t undef)
  rw [X2I _ _ _ _ (by omega),Array.getD_eq_getD_getElem?]
  by_cases ht:t<args.length
  ·
   rw [if_pos (by omega),Array.getElem?_append_left (by omega)]
   obtain⟨b,hb1,hb2⟩:=hr.get t args[t] (by simp [ht])
   simp only [Nat.sub_zero]
   rw [List.getElem?_eq_getElem ht]
   have:args'[t]?=some b:=by simpa using hb1
   rw [this];exact hb2
  ·
   rw [if_neg (by omega),Array.getElem?_append_right (by omega)]
   have hu:(((Array.replicate (fn.ntmps - args'.size) undef)[t - args'.size]?).getD undef)=undef:=by
    rw [Array.getElem?_replicate];split<;>rfl
   rw [hu]
   exact .tuple .nil
 have fin:∀ x st,ex false (max fn.ntmps args.length) c ⟨X2z 0 .leaf args,h⟩=some (x,st)→(x=.normal∨x=.ret)→X2q P fn st=some v→st.h=h' →
   Calls P f args' w (X2K ρ w v h'):=by
  intro x st he hx hv hh
  subst hh
  refine callsIn_wide.1 (callsIn_of_wp_marks (F:=Fence.wide) (n:=0) hfn hb trivial (wpIn_mono (hex _ _ _ _ _ _ he Fence.wide (.inl rfl) (fun _=>rfl) 0 _ ρ _ w S0) ?_))
  rintro e a' w' ⟨rfl,ρ',g,f',S⟩
  have key:LeavesInM Fence.wide 0 P fn a'.tmps (X2K ρ w v st.h) a'.defers .returning w':=by
   obtain⟨Ds,h1,h2,h3⟩:=S.d
   rw [h1]
   have:∀ (w1:World),X0f ρ' st.h w1→Fr ρ w w1→∃ u,(results fn a'.tmps).run P w1=.ok u w1∧X2K ρ w v st.h (.returned u) w1:=by
    intro w1 H1 F1
    obtain⟨v',q1,q2⟩:=X69 H1 S.t hv
    exact⟨v',q1,v',ρ',rfl,q2,H1,g,F1⟩
   exact X8E Ds w' S.h f' h2 h3 this
  rcases hx with rfl | rfl
  · exact key
  · exact key
 split at e
 ·
  rename_i st he
  split at e
  · rename_i u hu;cases e;exact fin _ st he (.inl rfl) hu rfl
  · cases e
 ·
  rename_i st he
  split at e
  · rename_i u hu;cases e;exact fin _ st he (.inr rfl) hu rfl
  · cases e
 · cases e
theorem XE6 {ρ:Rho} {nt:Nat} (hs:nt<1000000) {vs vs':List Value} (r:F2 (X0N ρ) vs vs'):∀ (ps:List Tmp) (tm:Tr Value) (tmps:Array Value),X5Q ρ tm tmps→tmps.size=nt →
  X5Q ρ (XH9 nt tm ps vs) ((ps.zip vs').foldl (fun t (x:Tmp×Value)=>t.setIfInBounds x.1 x.2) tmps)∧((ps.zip vs').foldl (fun t (x:Tmp×Value)=>t.setIfInBounds x.1 x.2) tmps).size=nt:=by
 induction r with
 | nil =>
  intro ps tm tmps T hn
  cases ps<;>exact⟨T,hn⟩
 | cons h t ih =>
  intro ps tm tmps T hn
  cases ps with
  | nil=>exact⟨T,hn⟩
  | cons p ps =>
   rename_i v v' vs vs'
   simp only [XH9,List.zip_cons_cons,List.foldl_cons]
   have:=X5Q.put (a:={ tmps:=tmps,defers:=[] }) T hn hs h (some p)
   exact ih ps _ _ this (by simpa using hn)
theorem X8F (r:Loop) (args:Array Value):X3G r args=(r.params.toList.zip args.toList).foldl (fun t (x:Tmp×Value)=>t.setIfInBounds x.1 x.2) r.tmps:=by
 unfold X3G
 rw [← Array.foldl_toList,Array.toList_zip]
theorem X6c {s:LoopState} (h:X9B s=true):s=.ready:=by cases s<;>first | rfl | cases h
theorem XAp {s:LoopState} (h:XCQ s=true):s≠.busy:=by cases s<;>first | (intro x;cases x;done) | cases h
theorem X5o {P:Program} {ex:X3f} (hex:X6b P ex):∀ b args h v h',X5m ex b args h=some (v,h')→∀ ρ w (args':Array Value) I,X0f ρ h w→ρ b=some I→F2 (X0N ρ) args args'.toList →
  ∃ r,w.heap[I.g]?=some (.loop r)∧args'.size=r.params.size∧∀ n,RoundIn Fence.wide n P I.g r.fn (X3G r args') r.assign r.body w (X2K ρ w v h'):=by
 intro b args h v h' e ρ w args' I H hb hr
 unfold X5m at e
 split at e
 case h_2=>cases e
 rename_i L hL
 have hL:=X3W hL
 split at e
 case h_2=>cases e
 rename_i hck
 simp only [Bool.and_eq_true]at hck
 have hst:=X6c hck.1
 have hlen:args.length=L.params.size:=Nat.eq_of_beq_eq_true hck.2
 split at e
 case h_2=>cases e
 rename_i st h1
 split at e
 case h_2=>cases e
 rename_i L1 hL1
 have hL1:=X3W hL1
 split at e
 case h_2=>cases e
 rename_i hrd
 have hrd:=X6c hrd
 split at e
 case h_2=>cases e
 rename_i x st' h2
 split at e
 case h_2=>cases e
 rename_i L2 hL2
 have hL2:=X3W hL2
 cases e
 obtain⟨fn,tmps,D,hw,hT,hsz,hnt⟩:=H.lp b I _ hb hL
 have hal:=hr.length
 simp only [Array.length_toList]at hal
 refine⟨_,hw,by simp;omega,fun n=>?_⟩
 obtain⟨hT2,hsz2⟩:=XE6 hnt hr L.params.toList L.tm tmps hT hsz
 have e0:X3G { state:=L.state,pending:=L.pend,fn:=fn,tmps:=tmps,params:=L.params,assign:=L.assign,body:=L.body,defers:=D } args' =
   (L.params.toList.zip args'.toList).foldl (fun t (x:Tmp×Value)=>t.setIfInBounds x.1 x.2) tmps:=X8F _ _
 rw [e0]
 have S0:X6Z w.heap.size ρ L.nt ⟨XH9 L.nt L.tm L.params.toList args,h⟩ { tmps:=(L.params.toList.zip args'.toList).foldl (fun t (x:Tmp×Value)=>t.setIfInBounds x.1 x.2) tmps,defers:=[] } w :=
  ⟨H,hT2,.nil,hsz2,hnt,Nat.le_refl _⟩
 have hF:X30 (Fence.wide.inRound I.g):=.inr ⟨_,rfl⟩
 refine roundIn_of_wpIn (F:=Fence.wide) trivial (wpIn_mono (hex _ _ _ _ _ _ h1 _ hF (by simp) n _ ρ _ w S0) ?_)
 rintro e1 a1 w1 ⟨rfl,ρ1,g1,f1,S1⟩
 have hb1:=g1.ext b I hb
 obtain⟨fn1,tmps1,D1,hw1,hTa,hsa,hna⟩:=S1.h.lp b I _ hb1 hL1
 rw [hrd]at hw1
 refine⟨_,run_beginRound hw1 rfl,?_⟩
 have hlt1:I.g<w1.heap.size:=(Array.getElem?_eq_some_iff.1 hw1).1
 have H1:=S1.h.setObj (L':=.loop { L1 with state:=.busy }) hb1 hL1 (o':=.loop { state:=.busy,pending:=L1.pend,fn:=fn1,tmps:=tmps1,params:=L1.params,assign:=L1.assign,body:=L1.body,defers:=D1 }) rfl
  ⟨fn1,tmps1,D1,World.putObj_heap_same hlt1,hTa,hsa,hna⟩
 have f1':Fr ρ1 w1 (w1.putObj I.g (.loop { state:=.busy,pending:=L1.pend,fn:=fn1,tmps:=tmps1,params:=L1.params,assign:=L1.assign,body:=L1.body,defers:=D1 })):=(Fr.refl ρ1 w1).putObj (.inr ⟨b,I,hb1,rfl⟩)
 have S1':X6Z w.heap.size ρ1 L.nt ⟨st.tm,st.h.setLoop b { L1 with state:=.busy }⟩ a1 (w1.putObj I.g (.loop { state:=.busy,pending:=L1.pend,fn:=fn1,tmps:=tmps1,params:=L1.params,assign:=L1.assign,body:=L1.body,defers:=D1 })) :=
  ⟨H1,S1.t,S1.d.go (.refl _ _) f1',S1.n,S1.s,by rw [World.putObj_size];exact S1.z⟩
 refine wpIn_mono (hex _ _ _ _ _ _ h2 _ hF (by simp) n _ ρ1 _ _ S1') ?_
 rintro e2 a2 w2 ⟨rfl,ρ2,g2,f2,S2⟩
 have hb2:=g2.ext b I hb1
 obtain⟨fn2,tmps2,D2,hw2,hTb,hsb,hnb⟩:=S2.h.lp b I _ hb2 hL2
 have hlt2:I.g<w2.heap.size:=(Array.getElem?_eq_some_iff.1 hw2).1
 have fin:∀ j:Option Code,(∀ q,q=(match j.isNone with | true=>LoopState.ready | false=>.done) →
   X0f ρ2 (st'.h.setLoop b { L2 with state:=q,pend:=j }) (w2.putObj I.g (.loop { state:=q,pending:=j,fn:=fn2,tmps:=tmps2,params:=L2.params,assign:=L2.assign,body:=L2.body,defers:=D2 }))):=by
  intro j q _
  exact S2.h.setObj (L':=.loop { L2 with state:=q,pend:=j }) hb2 hL2 rfl ⟨fn2,tmps2,D2,World.putObj_heap_same hlt2,hTb,hsb,hnb⟩
 have ffin:∀ o,Fr ρ w (w2.putObj I.g o):=fun o=>((f1.trans g1 f1').trans g1 f2).putObj (.inr ⟨b,I,hb,rfl⟩)
 have gfin:X2H ρ ρ2 w:=(g1.trans f1.size ((X2H.refl ρ1 w1).trans f1'.size g2))
 cases x with
 | normal=>exact⟨_,_,run_endRound none hw2,_,ρ2,rfl,.plain rfl,fin none .ready rfl,gfin,ffin _⟩
 | exit id=>exact⟨_,_,run_endRound (some (.exit id)) hw2,_,ρ2,rfl,.plain rfl,fin (some (.exit id)) .done rfl,gfin,ffin _⟩
 | ret=>exact⟨_,_,run_endRound (some .ret) hw2,_,ρ2,rfl,.plain rfl,fin (some .ret) .done rfl,gfin,ffin _⟩
def XAq (P:Program) (ov:Ov):Prop:=∀ f g,ov f=some g→X2f P f g
theorem X3h {P:Program} {ov:Ov} (hov:XAq P ov) {ex:X3f} (hex:X6b P ex):X5i P (X1b P ov ex):=by
 refine⟨fun f args h v h' e=>?_,fun b args h v h' e=>?_⟩
 ·
  simp only [X1b]at e
  split at e
  ·
   rename_i r hk
   cases e
   unfold known at hk
   split at hk
   · rename_i g hg;exact hov f g hg args h v h' hk
   · cases hk
  · exact X6A hex f args h v h' e
 · exact X5o hex b args h v h' e
theorem XAr {P:Program} {g:FuncId} (h:XCP P g=true) (args:Array Value) (w:World):(callFunc g args).run P w=.ok (.enter g args) w:=by
 unfold XCP at h
 split at h
 case h_2=>cases h
 rename_i fn hfn
 split at h
 case h_1=>cases h
 rename_i hng
 have hng':¬ fn.name = "runtime.NumGoroutine" := by simpa using hng
 obtain⟨c,hb⟩:=Option.isSome_iff_exists.1 h
 simp [callFunc,hfn,hng',hb]
theorem X5p {P:Program} {call:X0D} (hcall:X5i P call) {n0 nt:Nat} {f:Operand} {ps:Array Tmp} {assign body:Code} {st st':St} {x:X} (e:X5n P call nt f ps assign body st=some (x,st'))
  {F:Fence} (hF:X30 F) (hro:F.round=none) {n:Nat} {ρ:Rho} {a:Act} {w:World} (S:X6Z n0 ρ nt st a w):(Code.rangeFunc f ps assign body).wpIn F n P (X4n n0 ρ w nt x st') a w:=by
 unfold X5n at e
 split at e
 case h_2=>cases e
 rename_i g fi ca hf
 split at e
 case h_2=>cases e
 rename_i hck
 simp only [Bool.and_eq_true]at hck
 obtain⟨hfi,hent⟩:=hck
 split at e
 case h_2=>cases e
 rename_i b h1 hnew
 split at e
 case h_2=>cases e
 rename_i v0 h2 hc
 split at e
 case h_2=>cases e
 rename_i L2 hL2
 have hL2:=X3W hL2
 split at e
 case h_2=>cases e
 rename_i x' hnb hbx
 cases e
 have hnb:=XAp hnb
 have rf:=X08 S.h S.t hf
 obtain⟨fi',ca',hx'⟩:=rf.funcF
 rw [hx']at rf
 have hfi0:fi=#[]:=by simpa using hfi
 subst hfi0
 have hcap:fi'=#[]∧F2 (X0N ρ) ca.toList ca'.toList:=by
  cases rf.leaf (by simp) (by simp)with
  | plain hp=>simp [X03]at hp;subst hp;exact⟨rfl,.nil⟩
  | func p1 p2 =>
   refine⟨?_,p2.mono fun _ _ x=>.one (.one x.toL)⟩
   have:=p1.length;simp at this;exact Array.size_eq_zero_iff.1 this.symm
 obtain⟨rfl,hca⟩:=hcap
 refine wpIn_rangeFunc ?_
 intro fn hfn
 rw [hro]
 obtain⟨W1,hW1⟩:∃ W1,(w.alloc (.deferred (some []))).alloc (.loop { state:=.ready,pending:=none,fn:=fn,tmps:=a.tmps,params:=ps,assign:=assign,body:=body,defers:=w.heap.size })=W1:=⟨_,rfl⟩
 have hsz1:W1.heap.size=w.heap.size+2:=by rw [← hW1];simp
 have hL1:W1.heap[w.heap.size+1]?=some (.loop { state:=.ready,pending:=none,fn:=fn,tmps:=a.tmps,params:=ps,assign:=assign,body:=body,defers:=w.heap.size }):=by
  rw [← hW1];have:=World.alloc_heap_new (w.alloc (.deferred (some []))) (.loop { state:=.ready,pending:=none,fn:=fn,tmps:=a.tmps,params:=ps,assign:=assign,body:=body,defers:=w.heap.size });rwa [World.size_alloc]at this
 have old:∀ k,k<w.heap.size→W1.heap[k]?=w.heap[k]?:=by
  intro k hk
  rw [← hW1]
  show((w.heap.push _).push _)[k]?=_
  rw [Array.getElem?_push,if_neg (by simp;omega),Array.getElem?_push,if_neg (by omega)]
 have hK1:W1.heap[w.heap.size]?=some (.deferred (some [])):=by
  rw [← hW1]
  show((w.heap.push _).push _)[w.heap.size]?=_
  rw [Array.getElem?_push,if_neg (by simp),Array.getElem?_push,if_pos rfl]
 have hrest:W1.os=w.os∧W1.tape=w.tape∧W1.output=w.output:=by rw [← hW1];exact⟨rfl,rfl,rfl⟩
 obtain⟨H1,hbn,hbnone,hext⟩:=S.h.newObj hnew (g:=w.heap.size+1) (w':=W1) (by omega) (by omega) old (fun ρ' hx=>⟨fn,a.tmps,w.heap.size,hL1,S.t.ext hx,S.n,S.s⟩)
 have F1:Fr ρ w W1:=⟨hrest.1,hrest.2.1,hrest.2.2,by omega,fun k hk _=>old k hk⟩
 have G1:X2H ρ (upd ρ b ⟨w.heap.size+1,0,0,0,none⟩) w:=⟨hext,fun c J e=>by
  by_cases hc:c=b
  · subst hc;rw [X0M]at e;cases e;exact .inl (by simp)
  · rw [X0U _ _ _ hc]at e;exact .inr ⟨c,J,e,rfl⟩,fun c J e n=>by
  by_cases hc:c=b
  · subst hc;rw [X0M]at e;cases e;exact absurd rfl n
  · rw [X0U _ _ _ hc]at e;exact e⟩
 have un1:∀ c J,upd ρ b ⟨w.heap.size+1,0,0,0,none⟩ c=some J→J.g≠w.heap.size:=by
  intro c J e
  by_cases hc:c=b
  · subst hc;rw [X0M]at e;cases e;simp
  · rw [X0U _ _ _ hc]at e;have:=X0V S.h e;omega
 have hargs:F2 (X0N (upd ρ b ⟨w.heap.size+1,0,0,0,none⟩)) (.func (.yield b) #[] #[]::ca.toList) (#[Value.func (.yield (w.heap.size+1)) #[] #[]]++ca').toList:=by
  simp only [Array.toList_append,List.cons_append,List.nil_append]
  exact .cons (.one (.one (.yld (I:=⟨w.heap.size+1,0,0,0,none⟩) (X0M _ _ _)))) (hca.mono fun _ _ r=>r.ext hext)
 refine⟨w.heap.size+1,[mark w.heap.size],W1,{ target:=.fn (.func g) ca',args:=#[.func (.yield (w.heap.size+1)) #[] #[]] },W1,g,
  #[.func (.yield (w.heap.size+1)) #[] #[]]++ca',W1,?_,?_,?_,?_,hF.depth,?_⟩
 · rw [← hW1];exact run_enterLoop_outer _ _ _ _ _
 ·
  simp only [resolve,hx']
  simp [go_sem]
 · intro f' _;exact hF.fn f'
 · simp [invoke,XAr hent]
 ·
  refine(hF.calls (hcall.f g _ h1 v0 h2 hc _ W1 _ H1 hargs)).mono ?_
  rintro e2 W2 ⟨v',ρ2,rfl,_,H2,G2,F2'⟩
  have hb2:=G2.ext b _ (X0M ρ b ⟨w.heap.size+1,0,0,0,none⟩)
  obtain⟨fn2,tmps2,D2,hw2,hTb,hsb,hnb2⟩:=H2.lp b _ _ hb2 hL2
  have hlt2:w.heap.size+1<W2.heap.size:=(Array.getElem?_eq_some_iff.1 hw2).1
  have hend:=run_endLoop (P:=P) hw2 hnb
  have H3:=H2.setObj (L':=.loop { L2 with state:=.exhausted }) hb2 hL2 (o':=.loop { state:=.exhausted,pending:=L2.pend,fn:=fn2,tmps:=tmps2,params:=L2.params,assign:=L2.assign,body:=L2.body,defers:=D2 }) rfl
   ⟨fn2,tmps2,D2,World.putObj_heap_same hlt2,hTb,hsb,hnb2⟩
  have F12:Fr ρ w W2:=F1.trans G1 F2'
  have F3:∀ o,Fr ρ w (W2.putObj (w.heap.size+1) o):=fun o=>F12.putObj (.inl (by omega))
  have F3':∀ o,Fr ρ2 W2 (W2.putObj (w.heap.size+1) o):=fun o=>(Fr.refl ρ2 W2).putObj (.inr ⟨b,_,hb2,rfl⟩)
  have G3:X2H ρ ρ2 w:=G1.trans F1.size G2
  have M1:X6Y n0 (upd ρ b ⟨w.heap.size+1,0,0,0,none⟩) W1 w.heap.size:=⟨S.z,hK1,un1⟩
  have Dfin:∀ o,XE5 n0 ρ2 (W2.putObj (w.heap.size+1) o) ([mark w.heap.size]++a.defers):=by
   intro o
   obtain⟨Ds,d1,d2,d3⟩:=S.d
   refine⟨w.heap.size::Ds,by rw [d1];rfl,?_,?_⟩
   ·
    rw [List.nodup_cons]
    refine⟨fun hm=>?_,d2⟩
    have:=(d3 _ hm).at_
    have:=(Array.getElem?_eq_some_iff.1 this).1
    omega
   ·
    intro E hE
    rcases List.mem_cons.1 hE with rfl | hE
    · exact(M1.go G2 F2').go (.refl _ _) (F3' o)
    · exact(((d3 E hE).go G1 F1).go G2 F2').go (.refl _ _) (F3' o)
  have Sfin:X6Z n0 ρ2 nt ⟨st.tm,h2.setLoop b { L2 with state:=.exhausted }⟩ { a with defers:=[mark w.heap.size]++a.defers } (W2.putObj (w.heap.size+1) (.loop { state:=.exhausted,pending:=L2.pend,fn:=fn2,tmps:=tmps2,params:=L2.params,assign:=L2.assign,body:=L2.body,defers:=D2 })) :=
   ⟨H3,S.t.ext G3.ext,Dfin _,S.n,S.s,by rw [World.putObj_size];exact Nat.le_trans S.z F12.size⟩
  have Lfin:X67 n0 ρ w nt ⟨st.tm,h2.setLoop b { L2 with state:=.exhausted }⟩ { a with defers:=[mark w.heap.size]++a.defers } (W2.putObj (w.heap.size+1) (.loop { state:=.exhausted,pending:=L2.pend,fn:=fn2,tmps:=tmps2,params:=L2.params,assign:=L2.assign,body:=L2.body,defers:=D2 })):=⟨ρ2,G3,F3 _,Sfin⟩
  refine⟨L2.pend,_,hend,?_⟩
  unfold XHA at hbx
  split at hbx
  · rename_i hp;cases hbx;rw [hp];exact⟨rfl,by rw [hp]at Lfin;exact Lfin⟩
  · rename_i hp;cases hbx;rw [hp];exact wpIn_ret ⟨rfl,by rw [hp]at Lfin;exact Lfin⟩
  · rename_i id hp;cases hbx;rw [hp];exact wpIn_exit ⟨rfl,by rw [hp]at Lfin;exact Lfin⟩
  · cases hbx
theorem X4n.trans {n0:Nat} {ρ ρ₁:Rho} {w w₁:World} {nt:Nat} {x:X} {st:St} (g:X2H ρ ρ₁ w) (f:Fr ρ w w₁) {e:Exit} {a':Act} {w':World} (h:X4n n0 ρ₁ w₁ nt x st e a' w'):X4n n0 ρ w nt x st e a' w':=⟨h.1,h.2.trans g f⟩
section
variable {P:Program} {F:Fence} {n:Nat} {b:Frame} {a:Act} {k:List Item} {cs:List Frame} {w:World} {Q:Exit→Act→World→Prop}
theorem X1q {c:Code}:step P (lone (b.atR a (.code (.scope c)::k)) cs w)=.next (lone (b.atR a (.code c::.inScope c::k)) cs w) :=
 step_lone_go (by simp [stepG,stepG.exec,Frame.atR])
theorem X7E {c:Code}:step P (lone (b.atR a (.inScope c::k)) cs w)=.next (lone (b.atR a k) cs w) :=
 step_lone_go (by simp [stepG,stepG.exec,Frame.atR])
theorem XAs {c:Code} (h:c.wpIn F n P Q a w) (hg:∀ l a w,¬ Q (.goto l) a w):(Code.scope c).wpIn F n P Q a w:=by
 intro b k cs hro hb hr
 have h0:(lone (b.atR a (.code (.scope c)::k)) cs w).fenced P F:=fenced_calm hb hr rfl
 obtain⟨e,a₁,w₁,hq,harr⟩:=h b (.inScope c::k) cs hro hb hr
 cases e with
 | normal=>exact⟨.normal,a₁,w₁,hq,.head h0 X1q (StepsIn.trans harr (.one (fenced_calm hb hr rfl) X7E))⟩
 | exit id =>
  have hx:exitTo id (.inScope c::k)=exitTo id k:=by simp [exitTo]
  exact⟨.exit id,a₁,w₁,hq,fun k' hk=>.head h0 X1q (harr.1 k' (by rw [hx];exact hk)),
   fun hr' hk=>let ⟨k₁,h1,h2⟩:=harr.2 hr' (by rw [hx];exact hk);⟨k₁,h1,.head h0 X1q h2⟩⟩
 | goto l=>exact absurd hq (hg l a₁ w₁)
 | ret=>exact⟨_,a₁,w₁,hq,.of_steps (.one h0 X1q) harr⟩
 | panic ch=>exact⟨_,a₁,w₁,hq,.of_steps (.one h0 X1q) harr⟩
 | outgrown=>exact⟨_,a₁,w₁,hq,.of_steps (.one h0 X1q) harr⟩
end
theorem XAt {P:Program} {ov:Ov} (hov:XAq P ov) {dr:X0D→Nat→Array Oper→St→Option St} (hdr:XHB P dr):∀ k,X6b P (exec P ov dr k):=by
 intro k
 induction k using Nat.strongRecOn with
 | _ k ih =>
 intro rd nt c st x st' e F hF hro n n0 ρ a w S
 cases k with
 | zero=>cases e
 | succ k =>
  have hex:X6b P (exec P ov dr k):=ih k (Nat.lt_succ_self k)
  have hcall:=X3h hov hex
  change X0B P ov dr (exec P ov dr k) rd nt c st=some (x,st')at e
  unfold X0B at e
  split at e
  · cases e;exact wpIn_skip ⟨rfl,.refl S⟩
  · cases e;exact wpIn_label ⟨rfl,.refl S⟩
  · cases e;exact wpIn_exit ⟨rfl,.refl S⟩
  · cases e;exact wpIn_ret ⟨rfl,.refl S⟩
  ·
   rename_i id ops
   split at e
   ·
    rename_i st₁ h1
    cases e
    rw [X5k]at h1
    refine wpIn_region ?_
    rw [List.range_eq_range']
    exact X7C hF hcall ops.size 0 ρ st st' a w (by omega) S h1 fun a' w' hl=>⟨rfl,hl⟩
   · cases e
  ·
   rename_i id ops
   split at e
   ·
    rename_i st₁ h1
    cases e
    exact hdr _ hcall id nt ops st st' h1 F hF n n0 ρ a w S
   · cases e
  ·
   rename_i c1 c2
   refine wpIn_seq ?_
   split at e
   ·
    rename_i st₁ h1
    refine wpIn_mono (hex _ _ _ _ _ _ h1 F hF hro n n0 ρ a w S) ?_
    rintro e1 a1 w1 ⟨rfl,ρ1,g,f,S1⟩
    exact wpIn_mono (hex _ _ _ _ _ _ e F hF hro n n0 ρ1 a1 w1 S1) fun _ _ _ hq=>hq.trans g f
   ·
    rename_i hne
    refine wpIn_mono (hex _ _ _ _ _ _ e F hF hro n n0 ρ a w S) ?_
    rintro e1 a1 w1 ⟨rfl,hl⟩
    cases x with
    | normal=>exact absurd e (hne st')
    | exit id=>exact⟨rfl,hl⟩
    | ret=>exact⟨rfl,hl⟩
  ·
   rename_i co c1 c2
   split at e
   ·
    rename_i hc
    have hc':=X0N.eq_of_plain (X08 S.h S.t hc) rfl
    exact wpIn_cond_true hc' (hex _ _ _ _ _ _ e F hF hro n n0 ρ a w S)
   ·
    rename_i hc
    have hc':=X0N.eq_of_plain (X08 S.h S.t hc) rfl
    exact wpIn_cond_false hc' (hex _ _ _ _ _ _ e F hF hro n n0 ρ a w S)
   · cases e
  ·
   rename_i id c1
   refine wpIn_block ?_
   split at e
   ·
    rename_i j st₁ h1
    refine wpIn_mono (hex _ _ _ _ _ _ h1 F hF hro n n0 ρ a w S) ?_
    rintro e1 a1 w1 ⟨rfl,hl⟩
    split at e
    ·
     rename_i hj
     cases e
     have hj:j=id:=Nat.eq_of_beq_eq_true hj
     show(if j=id then _ else _)
     rw [if_pos hj]
     exact⟨rfl,hl⟩
    ·
     rename_i hj
     cases e
     have hj:¬ j=id:=fun x=>by subst x;simp at hj
     show(if j=id then _ else _)
     rw [if_neg hj]
     exact⟨rfl,hl⟩
   ·
    rename_i hne
    refine wpIn_mono (hex _ _ _ _ _ _ e F hF hro n n0 ρ a w S) ?_
    rintro e1 a1 w1 ⟨rfl,hl⟩
    cases x with
    | normal=>exact⟨rfl,hl⟩
    | exit id=>exact absurd e (hne id st')
    | ret=>exact⟨rfl,hl⟩
  ·
   rename_i c1
   refine wpIn_loop_ghost (fun m a1 w1=>m≤k∧∃ st1 ρ1,X0B P ov dr (exec P ov dr m) rd nt (.loop c1) st1=some (x,st')∧X2H ρ ρ1 w∧Fr ρ w w1∧X6Z n0 ρ1 nt st1 a1 w1) k ⟨Nat.le_refl k,st,ρ,e,.refl _ _,.refl _ _,S⟩ ?_
   rintro m a1 w1 ⟨hnk,st1,ρ1,e1,g1,f1,S1⟩
   have hexn:X6b P (exec P ov dr m):=ih m (by omega)
   simp only [X0B]at e1
   split at e1
   ·
    rename_i st2 h2
    refine wpIn_mono (hexn _ _ _ _ _ _ h2 F hF hro n n0 ρ1 a1 w1 S1) ?_
    rintro e2 a2 w2 ⟨rfl,ρ2,g2,f2,S2⟩
    cases m with
    | zero=>cases e1
    | succ m =>
     exact⟨m,Nat.lt_succ_self m,by omega,st2,ρ2,e1,g1.trans f1.size g2,f1.trans g1 f2,S2⟩
   ·
    rename_i hne
    refine wpIn_mono (hexn _ _ _ _ _ _ e1 F hF hro n n0 ρ1 a1 w1 S1) ?_
    rintro e2 a2 w2 ⟨rfl,hl⟩
    cases x with
    | normal=>exact absurd e1 (hne st')
    | exit id=>exact⟨rfl,hl.trans g1 f1⟩
    | ret=>exact⟨rfl,hl.trans g1 f1⟩
  ·
   rename_i c1
   refine XAs (hex _ _ _ _ _ _ e F hF hro n n0 ρ a w S) ?_
   rintro l a' w' ⟨hx,_⟩
   cases x<;>cases hx
  ·
   rename_i f ps assign body
   split at e
   · cases e
   · exact X5p hcall e hF (hro rfl) S
  · cases e
end
end Go.Vai

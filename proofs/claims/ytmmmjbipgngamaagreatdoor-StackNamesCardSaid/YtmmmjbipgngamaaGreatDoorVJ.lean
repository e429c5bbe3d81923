/-
  What is proved here: one operation of a plain interpreter of Go code, whatever it is, is matched by the machine's (part J what a plain interpreter of Go code comes to in a body, or in a call, the machine comes to (part K). No conditions but those that the theorems state.
-/
import Derived.Test.YtmmmjbipgngamaaGreatDoorVH
import Derived.Sort.LoopGhostIn
set_option linter.unusedVariables false
set_option linter.unusedSimpArgs false
namespace Go.Vai
noncomputable section
theorem X0A {h h':X04} {o:Option Value} {v:Value} (e:X1d h o=some (v,h')):o=some v∧h'=h:=by
 unfold X1d at e
 split at e
 · cases e;exact⟨rfl,rfl⟩
 · cases e
def XBT (ρ:Rho) (w:World) (a:Act) (o:Oper) (v:Value) (h':X04) (next:Act→World→Prop):Prop :=
 ∀ v' ρ' w',X0F ρ' v v'→X0Y ρ' h' w'→X2A ρ ρ' w→Fr ρ w w'→next (a.put o.dst v') w'
def X2K (F:Fence):Prop:=F=Fence.wide∨∃ l,F=Fence.wide.inRound l
theorem X2K.fn {F:Fence} (h:X2K F) (f:FuncId):F.fn f:=by
 rcases h with rfl | ⟨l,rfl⟩<;>exact trivial
theorem X2K.calls {F:Fence} (h:X2K F) {n:Nat} {P:Program} {f:FuncId} {args:Array Value} {w:World} {R:Ending→World→Prop} (k:Calls P f args w R):CallsIn F n P f args w R:=by
 rcases h with rfl | ⟨l,rfl⟩
 · exact callsIn_wide.2 k
 ·
  have:=(callsIn_wide (n:=n)).2 k
  exact this
theorem X2K.depth {F:Fence} (h:X2K F) {p:Prop}:F.depth.isSome=true→p:=by
 rcases h with rfl | ⟨l,rfl⟩<;>(intro x;cases x)
theorem X2K.round {F:Fence} (h:X2K F) {n:Nat} {P:Program} {l:Nat} {f:FuncId} {tmps:Array Value} {assign body:Code} {w:World} {R:Ending→World→Prop} (k:RoundIn Fence.wide n P l f tmps assign body w R):RoundIn F n P l f tmps assign body w R:=by
 rcases h with rfl | ⟨l,rfl⟩
 · exact k
 · exact k
section
variable {P:Program} {F:Fence} {n:Nat} {ρ:Rho} {h h':X04} {w:World} {a:Act} {o:Oper} {v:Value} {next:Act→World→Prop} {Q:Exit→Act→World→Prop}
theorem X14 (hF:X2K F) {s:Sem Value} (he:execOp a.eval o=(do pure (.value (← s)))) (k:SM P ρ w s v h') (N:XBT ρ w a o v h' next) (hd:∀ c,o.op≠.defer c:=by simp):o.wpIn F n P a w next Q:=by
 obtain⟨v',ρ',w',h1,h2,h3,h4,h5⟩:=k
 refine⟨fun f _=>hF.fn f,?_⟩
 rw [Oper.semAt_eq _ _ _ hd,he,Sem.run_bind,h1]
 exact N v' ρ' w' h2 h3 h4 h5
theorem X0s (hF:X2K F) (H:X0Y ρ h w) {s:Sem Value} (he:execOp a.eval o=(do pure (.value (← s)))) (k:SP P ρ s v) (N:XBT ρ w a o v h next) (hd:∀ c,o.op≠.defer c:=by simp):o.wpIn F n P a w next Q :=
 X14 hF he (k.toSM H) N hd
theorem X1p (hF:X2K F) (H:X0Y ρ h w) {x:Value} (he:execOp a.eval o=pure (.value x)) (k:X0F ρ v x) (N:XBT ρ w a o v h next) (hd:∀ c,o.op≠.defer c:=by simp):o.wpIn F n P a w next Q:=by
 refine⟨fun f _=>hF.fn f,?_⟩
 rw [Oper.semAt_eq _ _ _ hd,he]
 exact N x ρ w k H (.refl _ _) (.refl _ _)
end
theorem F2.map_toList {ρ:Rho} {vs:List Value} {xs:Array Operand} {f:Operand→Value} (h:F2 (X0F ρ) vs (xs.toList.map f)):F2 (X0F ρ) vs (xs.map f).toList:=by simpa using h
theorem X8m {ρ:Rho} {v v':Value} (h:XBQ v=true) (r:X0F ρ v v'):X86 ρ v v':=by
 unfold XBQ at h
 rw [Bool.or_eq_true]at h
 rcases h with h | h
 · have:=r.eq_of_plain h;subst this;exact .plain h
 ·
  split at h
  · obtain⟨I,hb,rfl⟩:=r.ptr_inv;exact .ptr hb
  ·
   cases r.leaf (by simp) (by simp)with
   | plain hp=>simp [X03]at hp
   | yld hb=>exact .yld hb
  · cases h
theorem X6h {ρ:Rho} {l m:List Value} (h:F2 (X0F ρ) l m):l.all XBQ=true→F2 (X86 ρ) l m:=by
 induction h with
 | nil=>intro _;exact .nil
 | cons h t ih =>
  intro hp
  simp only [List.all_cons,Bool.and_eq_true]at hp
  exact .cons (X8m hp.1 h) (ih hp.2)
theorem F2.eq_of_all {ρ:Rho} {l m:List Value} (h:F2 (X0F ρ) l m):l.all X01=true→m=l:=by
 induction h with
 | nil=>intro _;rfl
 | cons h t ih =>
  intro hp
  simp only [List.all_cons,Bool.and_eq_true]at hp
  rw [h.eq_of_cellsPlain hp.1,ih hp.2]
theorem X7T {P:Program} {w:World}:∀ (fs:List Field) (places:List (Nat×Nat)),fs.mapM (fun f=>(sz P f.type).map fun n=>(f.offset,n))=some places →
  (fs.mapM (m:=Sem) fun f=>do pure (f.offset,← sizeOf f.type)).run P w=.ok places w:=by
 intro fs
 induction fs with
 | nil=>intro places h;simp at h;subst h;rfl
 | cons f fs ih =>
  intro places h
  simp only [List.mapM_cons,Option.bind_eq_bind,Option.bind_eq_some_iff,Option.map_eq_some_iff,Option.pure_def,Option.some.injEq]at h
  obtain⟨p,⟨n,hn,rfl⟩,ps,hps,rfl⟩:=h
  simp only [List.mapM_cons,Sem.run_bind,X0X hn,Result.andThen_ok,Sem.run_pure,ih ps hps]
theorem X6i {P:Program} {ρ:Rho} {t:TypeId} {parts:List (Nat×Value)} {parts':Array (Nat×Value)} {v:Value} (e:X5O P t parts=some v) (r:F2 (fun p p'=>p.1=p'.1∧X0F ρ p.2 p'.2) parts parts'.toList):SP P ρ (Instr.build t parts') v:=by
 unfold X5O at e
 split at e
 case h_2=>cases e
 rename_i z hz
 have hzr:F2 (X0x ρ) z.cells.toList z.cells.toList:=F2.refl _ fun x hx=>.plain (List.all_eq_true.1 (X16 (X0M hz)) x hx)
 split at e
 ·
  rename_i fields hu
  split at e
  case h_2=>cases e
  rename_i places hp
  split at e
  case h_2=>cases e
  rename_i l hl
  cases e
  obtain⟨l',q1,q2,_⟩:=X2B parts parts'.toList _ l z.cells hl r hzr
  refine⟨.agg l',fun w=>?_,.one (.agg q2)⟩
  have hm:=X7T (P:=P) (w:=w) fields.toList places hp
  have hm2:(fields.mapM (m:=Sem) fun f=>do pure (f.offset,← sizeOf f.type)).run P w=.ok places.toArray w:=by
   rw [Array.mapM_eq_mapM_toList,Sem.run_map,hm];rfl
  simp only [Instr.build,Sem.run_bind,X1F hz,Result.andThen_ok,X00 hu,hm2]
  rw [q1];rfl
 ·
  rename_i n elem hu
  split at e
  case h_2=>cases e
  rename_i size hs
  split at e
  case h_2=>cases e
  rename_i l hl
  cases e
  obtain⟨l',q1,q2,_⟩:=X2B parts parts'.toList _ l z.cells hl r hzr
  refine⟨.agg l',fun w=>?_,.one (.agg q2)⟩
  simp only [Instr.build,Sem.run_bind,X1F hz,Result.andThen_ok,X00 hu,X0X hs]
  rw [q1];rfl
 · cases e
theorem X8n {P:Program} {ρ:Rho} {argTypes:Array TypeId} {ty:TypeId} {x x' v:Value} (e:XDJ P argTypes ty x=some v) (r:X0F ρ x x'):SP P ρ (Builtin.len_ argTypes ty #[x']) v:=by
 unfold XDJ at e
 split at e
 case h_2=>cases e
 rename_i t ht
 split at e
 ·
  rename_i el bs n c hu
  cases e
  refine⟨.int .i64 n,fun w=>?_,.plain rfl⟩
  cases r.leaf (by simp) (by simp)with
  | plain hp=>simp [Builtin.len_,ht,X00 hu,goInt]
  | slice=>simp [Builtin.len_,ht,X00 hu,goInt]
  | sliceE=>simp [Builtin.len_,ht,X00 hu,goInt]
 ·
  rename_i s hu
  cases e
  have:=r.eq_of_plain rfl;subst this
  exact⟨.int .i64 s.size,fun w=>by simp [Builtin.len_,ht,X00 hu,goInt],.plain rfl⟩
 ·
  rename_i n el hu
  cases e
  exact⟨.int .i64 n,fun w=>by simp [Builtin.len_,ht,X00 hu,goInt],.plain rfl⟩
 · cases e
theorem X6j {P:Program} {F:Fence} (hF:X2K F) {n:Nat} {call:X0E} (hcall:X4h P call) {ρ:Rho} {h h':X04} {w:World} {a:Act} {o:Oper} {tm:Tr Value} {v:Value} {next:Act→World→Prop} {Q:Exit→Act→World→Prop}
  (H:X0Y ρ h w) (T:X4t ρ tm a.tmps) (e:X05 P call o tm h=some (v,h')) (N:XBT ρ w a o v h' next):o.wpIn F n P a w next Q:=by
 obtain⟨dst,op,ty,pos,after,guard⟩:=o
 unfold X05 at e
 cases op with
 | move x =>
  obtain⟨e1,rfl⟩:=X0A e
  exact X1p hF H rfl (X06 H T e1) N
 | assign x =>
  obtain⟨e1,rfl⟩:=X0A e
  exact X1p hF H rfl (X06 H T e1) N
 | pick c x y =>
  simp only at e
  split at e
  ·
   rename_i hc
   obtain⟨e1,rfl⟩:=X0A e
   have hc':=X0F.eq_of_plain (X06 H T hc) rfl
   refine X1p (x:=a.eval x) hF H ?_ (X06 H T e1) N
   simp [execOp,hc',asBool]
  ·
   rename_i hc
   obtain⟨e1,rfl⟩:=X0A e
   have hc':=X0F.eq_of_plain (X06 H T hc) rfl
   refine X1p (x:=a.eval y) hF H ?_ (X06 H T e1) N
   simp [execOp,hc',asBool]
  · cases e
 | alloc elem=>exact X14 hF rfl (X6V (P:=P) H e) N
 | box elem x =>
  simp only at e
  split at e
  · rename_i u hu;exact X14 hF rfl (X5K (P:=P) H e (X06 H T hu)) N
  · cases e
 | build t parts =>
  simp only at e
  split at e
  ·
   rename_i ps hps
   obtain⟨e1,rfl⟩:=X0A e
   exact X0s hF H rfl (X6i e1 (by have:=X3a H T hps;simpa using this)) N
  · cases e
 | buildSlice t len parts =>
  simp only at e
  split at e
  ·
   rename_i ps hps
   exact X14 hF rfl (X3W (P:=P) H e (by have:=X3a H T hps;simpa using this)) N
  · cases e
 | load t x =>
  simp only at e
  split at e
  ·
   rename_i u hu
   obtain⟨e1,rfl⟩:=X0A e
   obtain⟨v',q1,q2⟩:=X4a (P:=P) H e1 (X06 H T hu)
   exact X14 hF rfl ⟨v',ρ,w,q1,q2,H,.refl _ _,.refl _ _⟩ N
  · cases e
 | store t x y =>
  simp only at e
  split at e
  ·
   rename_i va vx ha hx
   split at e
   ·
    rename_i h₁ hs
    cases e
    obtain⟨w',q1,q2,q3⟩:=X6X (P:=P) H hs (X06 H T ha) (X06 H T hx)
    refine⟨fun f _=>hF.fn f,?_⟩
    have:(execOp a.eval ⟨dst,.store t x y,ty,pos,after,guard⟩).run P w=.ok .skip w':=by
     simp [execOp,q1]
    rw [Oper.semAt_eq _ _ _ (by simp),this]
    exact N undef ρ w' (.tuple .nil) q2 (.refl _ _) q3
   · cases e
  · cases e
 | nilCheck x =>
  simp only at e
  split at e
  ·
   rename_i b i hx
   cases e
   obtain⟨I,hb,hx'⟩:=(X06 H T hx).ptr_inv
   refine X1p (x:=.pointer (some ⟨I.g,I.o+i,none⟩)) hF H ?_ (.ptr hb) N
   simp [execOp,hx']
  ·
   rename_i f fi ca hx
   cases e
   have r:=X06 H T hx
   obtain⟨fi',ca',hx'⟩:=r.funcF
   rw [hx']at r
   refine X1p (x:=.func (.func f) fi' ca') hF H ?_ r N
   simp [execOp,hx']
  · cases e
 | binOp op t x y yt =>
  simp only at e
  split at e
  ·
   rename_i vx vy hx hy
   obtain⟨e1,rfl⟩:=X0A e
   exact X0s hF H rfl (X8i e1 (X06 H T hx) (X06 H T hy)) N
  · cases e
 | unOp op t x =>
  simp only at e
  split at e
  ·
   rename_i u hu
   split at e
   ·
    rename_i hp
    obtain⟨e1,rfl⟩:=X0A e
    have hx':=(X06 H T hu).eq_of_cellsPlain hp
    exact X0s (s:=Op.unary op u) hF H (by simp [execOp,hx']) (X0b e1) N
   · cases e
  · cases e
 | convert s d x =>
  simp only at e
  split at e
  · rename_i u hu;exact X14 hF rfl (X53 (P:=P) H e (X06 H T hu)) N
  · cases e
 | makeInterface t x =>
  simp only at e
  split at e
  ·
   rename_i u hu
   split at e
   ·
    rename_i hp
    obtain⟨e1,rfl⟩:=X0A e
    have hx':=(X06 H T hu).eq_of_cellsPlain hp
    exact X0s (s:=Instr.makeInterface t u) hF H (by simp [execOp,hx']) (X0b e1) N
   · cases e
  · cases e
 | makeFunc fn fi ca =>
  simp only at e
  split at e
  ·
   rename_i l m hl hm
   split at e
   ·
    rename_i hp
    simp only [Bool.and_eq_true]at hp
    obtain⟨hp,hfn⟩:=hp
    cases e
    obtain⟨g,rfl⟩:∃ g,fn=.func g:=by
     cases fn<;>first | exact⟨_,rfl⟩ | cases hfn
    refine X1p (x:=.func (.func g) (fi.map a.eval) (ca.map a.eval)) hF H rfl ?_ N
    refine .one (.one (.func ?_ ?_))
    · have:=X6h (X0m H T hl) hp.1;simpa using this
    · have:=X6h (X0m H T hm) hp.2;simpa using this
   · cases e
  · cases e
 | makeSlice t l c =>
  simp only at e
  split at e
  ·
   rename_i vl vc hl hc
   exact X14 hF rfl (X3s (P:=P) H e (X06 H T hl) (X06 H T hc)) N
  · cases e
 | slice t x lo hi mx =>
  simp only at e
  split at e
  ·
   rename_i u l m k hu hl hm hk
   obtain⟨e1,rfl⟩:=X0A e
   exact X0s hF H rfl (X6N H e1 (X06 H T hu) (X3Z H T hl) (X3Z H T hm) (X3Z H T hk)) N
  · cases e
 | fieldAddr t x f =>
  simp only at e
  split at e
  ·
   rename_i u hu
   obtain⟨e1,rfl⟩:=X0A e
   exact X0s hF H rfl (X3q e1 (X06 H T hu)) N
  · cases e
 | field t x f =>
  simp only at e
  split at e
  ·
   rename_i u hu
   obtain⟨e1,rfl⟩:=X0A e
   exact X0s hF H rfl (X6O e1 (X06 H T hu)) N
  · cases e
 | indexAddr t x i =>
  simp only at e
  split at e
  ·
   rename_i u j hu hj
   obtain⟨e1,rfl⟩:=X0A e
   exact X0s hF H rfl (X3r e1 (X06 H T hu) (X06 H T hj)) N
  · cases e
 | index t x i =>
  simp only at e
  split at e
  ·
   rename_i u j hu hj
   obtain⟨e1,rfl⟩:=X0A e
   exact X0s hF H rfl (X6Q e1 (X06 H T hu) (X06 H T hj)) N
  · cases e
 | range t x =>
  simp only at e
  split at e
  · rename_i u hu;exact X14 hF rfl (X6g (P:=P) H e (X06 H T hu)) N
  · cases e
 | next it isString =>
  simp only at e
  split at e
  · rename_i u hu;exact X14 hF rfl (X7P (P:=P) H e (X06 H T hu)) N
  · cases e
 | extract x i =>
  simp only at e
  split at e
  ·
   rename_i u hu
   obtain⟨e1,rfl⟩:=X0A e
   exact X0s hF H rfl (X50 e1 (X06 H T hu)) N
  · cases e
 | call c =>
  obtain⟨callee,args,argTypes⟩:=c
  simp only at e
  split at e
  ·
   split at e
   ·
    rename_i s x hl
    have r:=X0m H T hl
    have hargs:∃ s' x',args.map a.eval=#[s',x']∧X0F ρ s s'∧X0F ρ x x':=by
     generalize hm:args.toList.map a.eval=m at r
     cases r with
     | cons r1 r2=>cases r2 with
      | cons r2 r3=>cases r3;exact⟨_,_,Array.toList_inj.1 (by simpa using hm),r1,r2⟩
    obtain⟨s',x',ha,rs,rx⟩:=hargs
    refine X14 hF (s:=Builtin.append_ argTypes ty #[s',x']) ?_ (X5p (P:=P) H e rs rx) N
    simp [execOp,resolve,invoke,builtin,ha]
   · cases e
  ·
   split at e
   ·
    rename_i s x hl
    have r:=X0m H T hl
    have hargs:∃ s' x',args.map a.eval=#[s',x']∧X0F ρ s s'∧X0F ρ x x':=by
     generalize hm:args.toList.map a.eval=m at r
     cases r with
     | cons r1 r2=>cases r2 with
      | cons r2 r3=>cases r3;exact⟨_,_,Array.toList_inj.1 (by simpa using hm),r1,r2⟩
    obtain⟨s',x',ha,rs,rx⟩:=hargs
    refine X14 hF (s:=Builtin.copy_ argTypes ty #[s',x']) ?_ (X7N (P:=P) H e rs rx) N
    simp [execOp,resolve,invoke,builtin,ha]
   · cases e
  ·
   split at e
   ·
    rename_i x hl
    have r:=X0m H T hl
    have hargs:∃ x',args.map a.eval=#[x']∧X0F ρ x x':=by
     generalize hm:args.toList.map a.eval=m at r
     cases r with
     | cons r1 r2=>cases r2;exact⟨_,Array.toList_inj.1 (by simpa using hm),r1⟩
    obtain⟨x',ha,rx⟩:=hargs
    refine X14 hF (s:=Builtin.clear_ argTypes ty #[x']) ?_ (X6e (P:=P) H e rx) N
    simp [execOp,resolve,invoke,builtin,ha]
   · cases e
  ·
   split at e
   ·
    rename_i x hl
    obtain⟨e1,rfl⟩:=X0A e
    have r:=X0m H T hl
    have hargs:∃ x',args.map a.eval=#[x']∧X0F ρ x x':=by
     generalize hm:args.toList.map a.eval=m at r
     cases r with
     | cons r1 r2=>cases r2;exact⟨_,Array.toList_inj.1 (by simpa using hm),r1⟩
    obtain⟨x',ha,rx⟩:=hargs
    refine X0s (s:=Builtin.cap_ argTypes ty #[x']) hF H ?_ (X8k e1 rx) N
    simp [execOp,resolve,invoke,builtin,ha]
   · cases e
  ·
   split at e
   ·
    rename_i x hl
    obtain⟨e1,rfl⟩:=X0A e
    have r:=X0m H T hl
    have hargs:∃ x',args.map a.eval=#[x']∧X0F ρ x x':=by
     generalize hm:args.toList.map a.eval=m at r
     cases r with
     | cons r1 r2=>cases r2;exact⟨_,Array.toList_inj.1 (by simpa using hm),r1⟩
    obtain⟨x',ha,rx⟩:=hargs
    refine X0s (s:=Builtin.len_ argTypes ty #[x']) hF H ?_ (X8n e1 rx) N
    simp [execOp,resolve,invoke,builtin,ha]
   · cases e
  ·
   split at e
   ·
    rename_i l hl
    split at e
    ·
     rename_i hp
     obtain⟨e1,rfl⟩:=X0A e
     have hm:=(X0m H T hl).eq_of_all hp
     have ha:args.map a.eval=l.toArray:=Array.toList_inj.1 (by simpa using hm)
     refine X0s (s:=Builtin.min_ argTypes ty l.toArray) hF H ?_ (X0b e1) N
     simp [execOp,resolve,invoke,builtin,ha]
    · cases e
   · cases e
  ·
   split at e
   ·
    rename_i l hl
    split at e
    ·
     rename_i hp
     obtain⟨e1,rfl⟩:=X0A e
     have hm:=(X0m H T hl).eq_of_all hp
     have ha:args.map a.eval=l.toArray:=Array.toList_inj.1 (by simpa using hm)
     refine X0s (s:=Builtin.max_ argTypes ty l.toArray) hF H ?_ (X0b e1) N
     simp [execOp,resolve,invoke,builtin,ha]
    · cases e
   · cases e
  ·
   rename_i f
   split at e
   ·
    rename_i g fi ca l hf hl
    split at e
    case h_2=>cases e
    rename_i fn hfn
    split at e
    case h_1=>cases e
    rename_i hng
    have rf:=X06 H T hf
    have rl:=X0m H T hl
    have hfun:∃ fi' ca',a.eval f=.func (.func g) fi' ca'∧F2 (X0F ρ) fi.toList fi'.toList∧F2 (X0F ρ) ca.toList ca'.toList:=by
     obtain⟨fi',ca',hx'⟩:=rf.funcF
     rw [hx']at rf
     refine⟨fi',ca',hx',?_⟩
     cases rf.leaf (by simp) (by simp)with
     | plain hp=>simp [X03]at hp;obtain⟨e1,e2⟩:=hp;subst e1 e2;exact⟨.nil,.nil⟩
     | func p1 p2=>exact⟨p1.mono fun _ _ x=>.one (.one x.toL),p2.mono fun _ _ x=>.one (.one x.toL)⟩
    obtain⟨fi',ca',hx',r1,r2⟩:=hfun
    have hall:F2 (X0F ρ) (fi.toList++l++ca.toList) (fi'++args.map a.eval++ca').toList:=by
     have:=(r1.append rl).append r2
     simpa using this
    have hexec:execOp a.eval ⟨dst,.call ⟨.value f,args,argTypes⟩,ty,pos,after,guard⟩=callFunc g (fi'++args.map a.eval++ca'):=by
     simp only [execOp,resolve,Deferred.ofValue,hx',pure_bind];rfl
    split at e
    ·
     rename_i c hb
     have hrun:(callFunc g (fi'++args.map a.eval++ca')).run P w=.ok (.enter g (fi'++args.map a.eval++ca')) w:=by
      have hng':¬ fn.name = "runtime.NumGoroutine" := by simpa using hng
      simp [callFunc,hfn,hng',hb]
     refine⟨fun f _=>hF.fn f,?_⟩
     rw [Oper.semAt_eq _ _ _ (by simp),hexec,hrun,Oper.uponIn_enter]
     refine⟨hF.depth,(hF.calls (hcall.f g _ h v h' e ρ w _ H hall)).mono ?_⟩
     rintro e' w' ⟨v',ρ',rfl,q1,q2,q3,q4⟩
     exact N v' ρ' w' q1 q2 q3 q4
    ·
     split at e
     case h_2=>cases e
     rename_i hp
     split at e
     case h_2=>cases e
     rename_i u hu
     split at e
     case h_2=>cases e
     rename_i hpu
     cases e
     have hm:=hall.eq_of_all hp
     have ha:(fi'++args.map a.eval++ca')=(fi.toList++l++ca.toList).toArray:=Array.toList_inj.1 (by simpa using hm)
     have hr:=X89 _ hu w
     refine⟨fun f _=>hF.fn f,?_⟩
     rw [Oper.semAt_eq _ _ _ (by simp),hexec,ha,hr]
     exact N v ρ w (.of_cellsPlain hpu) H (.refl _ _) (.refl _ _)
   ·
    rename_i b _ _ l hf hl
    have rl:=X0m H T hl
    obtain⟨I,hb,hx'⟩:=(X06 H T hf).funcY
    obtain⟨r,hr,hs,hround⟩:=hcall.y b _ h v h' e ρ w (args.map a.eval) I H hb rl.map_toList
    have hexec:execOp a.eval ⟨dst,.call ⟨.value f,args,argTypes⟩,ty,pos,after,guard⟩=Instr.yield I.g (args.map a.eval):=by
     simp only [execOp,resolve,Deferred.ofValue,hx',pure_bind]
     simp [invoke]
    refine⟨fun f _=>hF.fn f,?_⟩
    rw [Oper.semAt_eq _ _ _ (by simp),hexec,run_yield hr hs,Oper.uponIn_round]
    refine⟨hF.depth,(hF.round (hround (n - 1))).mono ?_⟩
    rintro e' w' ⟨v',ρ',rfl,q1,q2,q3,q4⟩
    exact N v' ρ' w' q1 q2 q3 q4
   · cases e
  · cases e
 | _=>cases e
end
end Go.Vai
namespace Go.Vai
noncomputable section
theorem X0F.bool_back {ρ:Rho} {v:Value} {b:Bool} (r:X0F ρ v (.bool b)):v=.bool b:=by
 cases r with
 | one k=>cases k with
  | one k=>cases k with
   | plain h=>rfl
theorem X5r (a:Act) (dst:Option Tmp) (v:Value):(a.put dst v).tmps.size=a.tmps.size:=by
 cases dst<;>simp [Act.put]
theorem X3b (a:Act) (dst:Option Tmp) (v:Value):(a.put dst v).defers=a.defers:=by
 cases dst<;>rfl
theorem X4t.put {ρ:Rho} {tm:Tr Value} {a:Act} {nt:Nat} (T:X4t ρ tm a.tmps) (hn:a.tmps.size=nt) (hs:nt<1000000) {v v':Value} (r:X0F ρ v v') (dst:Option Nat):X4t ρ (X32 nt tm dst v) (a.put dst v').tmps:=by
 intro t
 cases dst with
 | none=>exact T t
 | some d =>
  simp only [X32]
  split
  ·
   rename_i hd
   have hd:d<nt:=by simpa using hd
   by_cases e:t=d
   ·
    subst e
    rw [Tr.get_put_same (by omega)]
    have:(a.put (some t) v').tmps.getD t undef=v':=by
     simp [Act.put,Array.getD_eq_getD_getElem?,Array.getElem?_setIfInBounds]
     rw [if_pos (by omega)];rfl
    rw [this];exact r
   ·
    rw [Tr.get_put_other e]
    have:(a.put (some d) v').tmps.getD t undef=a.tmps.getD t undef:=by
     simp only [Act.put,Array.getD_eq_getD_getElem?,Array.getElem?_setIfInBounds]
     rw [if_neg (fun x=>e x.symm)]
    rw [this];exact T t
  ·
   rename_i hd
   have hd:¬ d<nt:=fun hx=>by
    have hy:Nat.blt d nt=true:=by simpa using hx
    rw [hy]at hd;cases hd
   have:(a.put (some d) v').tmps=a.tmps:=by
    simp only [Act.put];exact Array.setIfInBounds_eq_of_size_le (by omega)
   rw [this];exact T t
theorem X6k {ρ:Rho} {tm:Tr Value} {a:Act} {ops:Array Oper} (T:X4t ρ tm a.tmps):X0W ops tm=yielded ops a.tmps:=by
 funext j
 unfold X0W yielded
 cases hd:(ops[j]?).bind (·.dst)with
 | none=>simp
 | some d =>
  simp only [Option.bind_some]
  have r:=T d
  rw [Array.getD_eq_getD_getElem?]at r
  cases ht:a.tmps[d]? with
  | none =>
   rw [ht]at r
   simp only [Option.getD_none]at r
   generalize hv:(tm.get d).getD undef=v at r
   cases v with
   | bool b=>have:=r.eq_of_plain rfl;cases this
   | _=>rfl
  | some x =>
   rw [ht]at r
   simp only [Option.getD_some]at r
   generalize hv:(tm.get d).getD undef=v at r
   cases x with
   | bool b=>have:=r.bool_back;subst this;rfl
   | _=>cases v with
    | bool b=>have:=r.eq_of_plain rfl;cases this
    | _=>rfl
def mark (D:Nat):Deferred:={ target:=.collected D,args:=#[] }
structure X5Q (n0:Nat) (ρ:Rho) (w:World) (D:Nat):Prop where
 lo:n0≤D
 at_:w.heap[D]?=some (.deferred (some []))
 un:∀ b I,ρ b=some I→I.g≠D
def XBp (n0:Nat) (ρ:Rho) (w:World) (ds:List Deferred):Prop:=∃ Ds:List Nat,ds=Ds.map mark∧Ds.Nodup∧∀ D∈Ds,X5Q n0 ρ w D
theorem X5Q.go {n0:Nat} {ρ ρ':Rho} {w w':World} {D:Nat} (h:X5Q n0 ρ w D) (g:X2A ρ ρ' w) (f:Fr ρ w w'):X5Q n0 ρ' w' D:=by
 have hlt:D<w.heap.size:=(Array.getElem?_eq_some_iff.1 h.at_).1
 refine⟨h.lo,?_,?_⟩
 · rw [f.keep D hlt h.un];exact h.at_
 ·
  intro b I e
  rcases g.new b I e with hb | ⟨b₀,I₀,e₀,eg⟩
  · omega
  · rw [← eg];exact h.un b₀ I₀ e₀
theorem XBp.go {n0:Nat} {ρ ρ':Rho} {w w':World} {ds:List Deferred} (h:XBp n0 ρ w ds) (g:X2A ρ ρ' w) (f:Fr ρ w w'):XBp n0 ρ' w' ds:=by
 obtain⟨Ds,h1,h2,h3⟩:=h
 exact⟨Ds,h1,h2,fun D hD=>(h3 D hD).go g f⟩
theorem XBp.nil {n0:Nat} {ρ:Rho} {w:World}:XBp n0 ρ w []:=⟨[],rfl,.nil,by simp⟩
structure X7U (n0:Nat) (ρ:Rho) (nt:Nat) (st:St) (a:Act) (w:World):Prop where
 h:X0Y ρ st.h w
 t:X4t ρ st.tm a.tmps
 d:XBp n0 ρ w a.defers
 n:a.tmps.size=nt
 s:nt<1000000
 z:n0≤w.heap.size
def X55 (n0:Nat) (ρ:Rho) (w:World) (nt:Nat) (st:St) (a':Act) (w':World):Prop:=∃ ρ',X2A ρ ρ' w∧Fr ρ w w'∧X7U n0 ρ' nt st a' w'
def X.toExit:X→Exit
 | .normal=>.normal
 | .exit id=>.exit id
 | .ret=>.ret
def X5s (n0:Nat) (ρ:Rho) (w:World) (nt:Nat) (x:X) (st:St):Exit→Act→World→Prop:=fun e a' w'=>e=x.toExit∧X55 n0 ρ w nt st a' w'
theorem X55.refl {n0:Nat} {ρ:Rho} {nt:Nat} {st:St} {a:Act} {w:World} (S:X7U n0 ρ nt st a w):X55 n0 ρ w nt st a w:=⟨ρ,.refl _ _,.refl _ _,S⟩
theorem X55.trans {n0:Nat} {ρ ρ₁:Rho} {nt:Nat} {st:St} {w w₁:World} {a':Act} {w':World} (g:X2A ρ ρ₁ w) (f:Fr ρ w w₁) (k:X55 n0 ρ₁ w₁ nt st a' w'):X55 n0 ρ w nt st a' w':=by
 obtain⟨ρ',g',f',S⟩:=k
 exact⟨ρ',g.trans f.size g',f.trans g f',S⟩
theorem X2F {P:Program} {F:Fence} (hF:X2K F) {n:Nat} {call:X0E} (hcall:X4h P call) {n0:Nat} {ρ:Rho} {nt:Nat} {ops:Array Oper} {o:Oper} {st st':St} {a:Act} {w:World} (S:X7U n0 ρ nt st a w)
  (e:X1e P call nt ops o st=some st') (K:Act→World→Prop) (hK:∀ a' w',X55 n0 ρ w nt st' a' w'→K a' w') (Q:Exit→Act→World→Prop) :
  (if Region.wanted o (yielded ops a.tmps)then o.wpIn F n P a w K Q else(∀ f,o.about P w a.eval=some f→F.fn f)∧K (a.put o.dst undef) w):=by
 unfold X1e at e
 rw [X6k S.t]at e
 cases hw:Region.wanted o (yielded ops a.tmps)with
 | false =>
  rw [hw]at e
  simp only [Option.some.injEq]at e
  subst e
  simp only [Bool.false_eq_true,if_false]
  exact⟨fun f _=>hF.fn f,hK _ _ ⟨ρ,.refl _ _,.refl _ _,S.h,S.t.put S.n S.s (.tuple .nil) o.dst,by rw [X3b];exact S.d,by rw [X5r];exact S.n,S.s,S.z⟩⟩
 | true =>
  rw [hw]at e
  simp only at e
  split at e
  ·
   rename_i v h' hs
   cases e
   simp only [if_true]
   refine X6j hF hcall S.h S.t hs ?_
   intro v' ρ' w' r H' g f
   exact hK _ _ ⟨ρ',g,f,H',(S.t.ext g.ext).put S.n S.s r o.dst,by rw [X3b];exact S.d.go g f,by rw [X5r];exact S.n,S.s,Nat.le_trans S.z f.size⟩
  · cases e
theorem X5t {P:Program} {F:Fence} (hF:X2K F) {n:Nat} {call:X0E} (hcall:X4h P call) {n0 nt:Nat} {ops:Array Oper} {Q:Exit→Act→World→Prop}:∀ (k i:Nat) (ρ:Rho) (st st':St) (a:Act) (w:World),i+k=ops.size→X7U n0 ρ nt st a w →
  X1P P call nt ops (ops.toList.drop i) st=some st'→(∀ a' w',X55 n0 ρ w nt st' a' w'→Q .normal a' w')→wpOpsIn F n P ops Q (List.range' i k) a w:=by
 intro k
 induction k with
 | zero =>
  intro i ρ st st' a w hi S e hQ
  rw [List.drop_of_length_le (by simp;omega)]at e
  simp only [X1P,Option.some.injEq]at e
  subst e
  exact hQ a w (.refl S)
 | succ k ih =>
  intro i ρ st st' a w hi S e hQ
  have hlt:i<ops.size:=by omega
  rw [List.drop_eq_getElem_cons (by simpa using hlt)]at e
  simp only [X1P]at e
  split at e
  case h_2=>cases e
  rename_i st₁ h1
  rw [List.range'_succ,wpOpsIn_cons]
  unfold wpOpIn
  have ho:ops[i]?=some ops.toList[i]:=by simp [hlt]
  rw [ho]
  refine X2F hF hcall S h1 _ ?_ Q
  intro a' w' hl
  obtain⟨ρ',g,f,S'⟩:=hl
  exact ih (i+1) ρ' st₁ st' a' w' (by omega) S' e fun a2 w2 h2=>hQ a2 w2 (X55.trans g f h2)
def DrOk (P:Program) (dr:X0E→Nat→Array Oper→St→Option St):Prop :=
 ∀ call,X4h P call→∀ id nt ops st st',dr call nt ops st=some st'→∀ F,X2K F→∀ n n0 ρ a w,X7U n0 ρ nt st a w→(Code.region id ops true).wpIn F n P (X5s n0 ρ w nt .normal st') a w
def resF (tmps:Array Value):ResultVar→Sem Value
 | .tmp t=>pure (tmps.getD t undef)
 | .cell b t=>do loadVar t (← asAddr (tmps.getD b undef))
theorem X5R (fn:Func) (tmps:Array Value):results fn tmps=(do
  let vs ← fn.results.mapM (resF tmps)
  pure (if h:vs.size=1 then vs[0]else .tuple vs)):=rfl
theorem X5u {P:Program} {ρ:Rho} {st:St} {tmps:Array Value} {w:World} (Sh:X0Y ρ st.h w) (St:X4t ρ st.tm tmps) {r:ResultVar} {v:Value} (e:X4k P st r=some v) :
  ∃ v',(resF tmps r).run P w=.ok v' w∧X0F ρ v v':=by
 cases r with
 | tmp t=>simp only [X4k,Option.some.injEq]at e;subst e;exact⟨_,rfl,St t⟩
 | cell b t =>
  simp only [X4k]at e
  obtain⟨v',q1,q2⟩:=X4a (P:=P) Sh e (St b)
  refine⟨v',?_,q2⟩
  have hp:∃ x,tmps.getD b undef=.pointer (some x):=by
   unfold X3G at e
   split at e
   case h_2=>cases e
   rename_i b' i hx
   have r:=St b
   rw [hx]at r
   exact r.ptrSome
  obtain⟨x,hx⟩:=hp
  rw [hx]at q1
  simp only [resF,hx]
  simpa[Instr.loadAt,Instr.sureAddr,asAddr]using q1
theorem X2r {P:Program} {ρ:Rho} {st:St} {tmps:Array Value} {w:World} (Sh:X0Y ρ st.h w) (St:X4t ρ st.tm tmps):∀ (rs:List ResultVar) (vs:List Value),X2D P st rs=some vs →
  ∃ vs',(rs.mapM (m:=Sem) (resF tmps)).run P w=.ok vs' w∧F2 (X0F ρ) vs vs':=by
 intro rs
 induction rs with
 | nil=>intro vs e;simp only [X2D,Option.some.injEq]at e;subst e;exact⟨[],rfl,.nil⟩
 | cons r rs ih =>
  intro vs e
  simp only [X2D]at e
  split at e
  ·
   rename_i v us h1 h2
   cases e
   obtain⟨v',q1,q2⟩:=X5u Sh St h1
   obtain⟨us',p1,p2⟩:=ih us h2
   refine⟨v'::us',?_,.cons q2 p2⟩
   simp only [List.mapM_cons,Sem.run_bind]
   rw [q1]
   simp only [Result.andThen_ok,p1,Sem.run_pure]
  · cases e
theorem X56 {ρ:Rho} {l m:List Value} (h:F2 (X0F ρ) l m):l.all X2g=true→F2 (X4z ρ) l m:=by
 induction h with
 | nil=>intro _;exact .nil
 | cons h t ih =>
  intro hp
  simp only [List.all_cons,Bool.and_eq_true]at hp
  refine .cons ?_ (ih hp.2)
  cases h with
  | one k=>exact k
  | tuple k=>exact absurd hp.1 (by simp [X2g])
theorem X57 {P:Program} {fn:Func} {ρ:Rho} {st:St} {tmps:Array Value} {w:World} (Sh:X0Y ρ st.h w) (St:X4t ρ st.tm tmps) {v:Value} (e:X2E P fn st=some v) :
  ∃ v',(results fn tmps).run P w=.ok v' w∧X0F ρ v v':=by
 unfold X2E at e
 split at e
 ·
  rename_i u hu
  cases e
  obtain⟨vs',q1,q2⟩:=X2r Sh St _ _ hu
  cases q2 with
  | cons r1 r2 =>
   cases r2
   rename_i v'
   refine⟨v',?_,r1⟩
   rw [X5R,Array.mapM_eq_mapM_toList]
   simp only [Sem.run_bind,Sem.run_map]
   rw [q1]
   simp
 ·
  rename_i vs hvs hne
  split at e
  case h_2=>cases e
  rename_i hp
  cases e
  obtain⟨vs',q1,q2⟩:=X2r Sh St _ _ hne
  have hlen:=q2.length
  refine⟨.tuple vs'.toArray,?_,.tuple (X56 q2 hp)⟩
  rw [X5R,Array.mapM_eq_mapM_toList]
  simp only [Sem.run_bind,Sem.run_map]
  rw [q1]
  simp only [Result.andThen_ok,Sem.run_pure]
  rw [dif_neg]
  simp only [List.size_toArray]
  intro h1
  match vs,hlen with
  | [x],_=>exact hvs x rfl
  | [],hl=>simp at hl;omega
  | _::_::_,hl=>simp at hl;omega
 · cases e
def X5S (P:Program) (ex:X2q):Prop :=
 ∀ rd nt c st x st',ex rd nt c st=some (x,st')→∀ F,X2K F→(rd=false→F.round=none)→∀ n n0 ρ a w,X7U n0 ρ nt st a w→c.wpIn F n P (X5s n0 ρ w nt x st') a w
theorem X0Y.putMark {ρ:Rho} {h:X04} {w:World} {D:Nat} {o:Obj} (H:X0Y ρ h w) (hD:w.heap[D]?=some (.deferred (some []))) (no:X1Y o=true) (un:∀ b I,ρ b=some I→I.g≠D):X0Y ρ h (w.putObj D o):=by
 refine⟨⟨H.nx.1.go fun k hk=>World.putObj_heap_other (fun e=>by
  obtain⟨c,t,f,hc⟩:=H.nx.1.at hk
  rw [e,hD]at hc;cases hc),H.nx.2⟩,H.dom,?_,?_,H.one,H.fin,H.glob,fun b I L hb hL=>(H.lp b I L hb hL).go (Ext.refl ρ) fun o _ hr=>by rw [World.putObj_heap_other (un b I hb)];exact hr,H.ld,H.li,H.lz,fun b I r T e1 ez=>by
  obtain⟨s1,s2,s3,s4⟩:=H.st b I r T e1 ez
  exact⟨s1,s2,s3,fun B C h1 h2 ht=>by rw [World.putObj_heap_other (un b I e1)];exact s4 B C h1 h2 ht⟩⟩
 ·
  intro b I B e1 e2
  obtain⟨k1,k2,k3⟩:=H.img b I B e1 e2
  have hh:(w.putObj D o).heap[I.g]?=w.heap[I.g]?:=World.putObj_heap_other (un b I e1)
  exact⟨by simpa using k1,fun j ho hj=>by rw [cell?_of_heap hh];exact k2 j ho hj,fun hro j ho hj=>by rw [frozen?_of_heap hh];exact k3 hro j ho hj⟩
 ·
  intro b I B C e1 e2 e3 e4 i v hi hv
  rw [cell?_of_heap (World.putObj_heap_other (un b I e1))];exact H.val b I B C e1 e2 e3 e4 i v hi hv
theorem X6l {P:Program} {fn:Func} {tmps:Array Value} {ρ0 ρ:Rho} {h:X04} {n:Nat} {R:Ending→World→Prop} {w0:World}:∀ (Ds:List Nat) (w:World),X0Y ρ h w→Fr ρ0 w0 w→Ds.Nodup→(∀ D∈Ds,X5Q w0.heap.size ρ w D) →
  (∀ w',X0Y ρ h w'→Fr ρ0 w0 w'→∃ v,(results fn tmps).run P w'=.ok v w'∧R (.returned v) w')→LeavesInM Fence.wide n P fn tmps R (Ds.map mark) .returning w:=by
 intro Ds
 induction Ds with
 | nil =>
  intro w H f _ _ k
  obtain⟨v,h1,h2⟩:=k w H f
  exact⟨v,h1,h2⟩
 | cons D Ds ih =>
  intro w H f nd hm k
  have hD:=hm D (by simp)
  have hlt:D<w.heap.size:=(Array.getElem?_eq_some_iff.1 hD.at_).1
  refine⟨by simp,.inl ⟨D,w.putObj D (.deferred none),rfl,run_takeDeferred hD.at_,?_⟩⟩
  simp only [List.nodup_cons]at nd
  refine ih _ (H.putMark hD.at_ rfl hD.un) (f.putObj (.inl hD.lo)) nd.2 ?_ k
  intro E hE
  have hne:E≠D:=by rintro rfl;exact nd.1 hE
  have:=hm E (by simp [hE])
  exact⟨this.lo,by rw [World.putObj_heap_other hne];exact this.at_,this.un⟩
theorem X58 {P:Program} {ex:X2q} (hex:X5S P ex) (f:FuncId):X24 P f (X43 P ex f):=by
 intro args h v h' e ρ w args' H hr
 unfold X43 at e
 split at e
 case h_2=>cases e
 rename_i fn hfn
 split at e
 case h_2=>cases e
 rename_i c hb
 split at e
 case h_2=>cases e
 rename_i hn
 have hn:max fn.ntmps args.length<1000000:=by simpa using hn
 have hlen:=hr.length
 simp only [Array.length_toList]at hlen
 have S0:X7U w.heap.size ρ (max fn.ntmps args.length) ⟨X2m 0 .leaf args,h⟩ { tmps:=args'++Array.replicate (fn.ntmps - args'.size) undef,defers:=[] } w:=by
  refine⟨H,?_,.nil,by simp;omega,hn,Nat.le_refl _⟩
  intro t
  show X0F ρ (((X2m 0 .leaf args).get t).getD undef) ((args'++Array.replicate (fn.ntmps - args'.size) undef).getD t undef)
  rw [X2d _ _ _ _ (by omega),Array.getD_eq_getD_getElem?]
  by_cases ht:t<args.length
  ·
   rw [if_pos (by omega),Array.getElem?_append_left (by omega)]
   obtain⟨b,hb1,hb2⟩:=hr.get t args[t] (by simp [ht])
   simp only [Nat.sub_zero]
   rw [List.getElem?_eq_getElem ht]
   have:args'[t]?=some b:=by simpa using hb1
   rw [this];exact hb2
  ·
   rw [if_neg (by omega),Array.getElem?_append_right (by omega)]
   have hu:(((Array.replicate (fn.ntmps - args'.size) undef)[t - args'.size]?).getD undef)=undef:=by
    rw [Array.getElem?_replicate];split<;>rfl
   rw [hu]
   exact .tuple .nil
 have fin:∀ x st,ex false (max fn.ntmps args.length) c ⟨X2m 0 .leaf args,h⟩=some (x,st)→(x=.normal∨x=.ret)→X2E P fn st=some v→st.h=h' →
   Calls P f args' w (X1s ρ w v h'):=by
  intro x st he hx hv hh
  subst hh
  refine callsIn_wide.1 (callsIn_of_wp_marks (F:=Fence.wide) (n:=0) hfn hb trivial (wpIn_mono (hex _ _ _ _ _ _ he Fence.wide (.inl rfl) (fun _=>rfl) 0 _ ρ _ w S0) ?_))
  rintro e a' w' ⟨rfl,ρ',g,f',S⟩
  have key:LeavesInM Fence.wide 0 P fn a'.tmps (X1s ρ w v st.h) a'.defers .returning w':=by
   obtain⟨Ds,h1,h2,h3⟩:=S.d
   rw [h1]
   have:∀ (w1:World),X0Y ρ' st.h w1→Fr ρ w w1→∃ u,(results fn a'.tmps).run P w1=.ok u w1∧X1s ρ w v st.h (.returned u) w1:=by
    intro w1 H1 F1
    obtain⟨v',q1,q2⟩:=X57 H1 S.t hv
    exact⟨v',q1,v',ρ',rfl,q2,H1,g,F1⟩
   exact X6l Ds w' S.h f' h2 h3 this
  rcases hx with rfl | rfl
  · exact key
  · exact key
 split at e
 ·
  rename_i st he
  split at e
  · rename_i u hu;cases e;exact fin _ st he (.inl rfl) hu rfl
  · cases e
 ·
  rename_i st he
  split at e
  · rename_i u hu;cases e;exact fin _ st he (.inr rfl) hu rfl
  · cases e
 · cases e
theorem XBU {ρ:Rho} {nt:Nat} (hs:nt<1000000) {vs vs':List Value} (r:F2 (X0F ρ) vs vs'):∀ (ps:List Tmp) (tm:Tr Value) (tmps:Array Value),X4t ρ tm tmps→tmps.size=nt →
  X4t ρ (XE1 nt tm ps vs) ((ps.zip vs').foldl (fun t (x:Tmp×Value)=>t.setIfInBounds x.1 x.2) tmps)∧((ps.zip vs').foldl (fun t (x:Tmp×Value)=>t.setIfInBounds x.1 x.2) tmps).size=nt:=by
 induction r with
 | nil =>
  intro ps tm tmps T hn
  cases ps<;>exact⟨T,hn⟩
 | cons h t ih =>
  intro ps tm tmps T hn
  cases ps with
  | nil=>exact⟨T,hn⟩
  | cons p ps =>
   rename_i v v' vs vs'
   simp only [XE1,List.zip_cons_cons,List.foldl_cons]
   have:=X4t.put (a:={ tmps:=tmps,defers:=[] }) T hn hs h (some p)
   exact ih ps _ _ this (by simpa using hn)
theorem X6m (r:Loop) (args:Array Value):X2R r args=(r.params.toList.zip args.toList).foldl (fun t (x:Tmp×Value)=>t.setIfInBounds x.1 x.2) r.tmps:=by
 unfold X2R
 rw [← Array.foldl_toList,Array.toList_zip]
theorem X5T {s:LoopState} (h:X7S s=true):s=.ready:=by cases s<;>first | rfl | cases h
theorem X8o {s:LoopState} (h:XA5 s=true):s≠.busy:=by cases s<;>first | (intro x;cases x;done) | cases h
theorem X4n {P:Program} {ex:X2q} (hex:X5S P ex):∀ b args h v h',X4l ex b args h=some (v,h')→∀ ρ w (args':Array Value) I,X0Y ρ h w→ρ b=some I→F2 (X0F ρ) args args'.toList →
  ∃ r,w.heap[I.g]?=some (.loop r)∧args'.size=r.params.size∧∀ n,RoundIn Fence.wide n P I.g r.fn (X2R r args') r.assign r.body w (X1s ρ w v h'):=by
 intro b args h v h' e ρ w args' I H hb hr
 unfold X4l at e
 split at e
 case h_2=>cases e
 rename_i L hL
 have hL:=X2h hL
 split at e
 case h_2=>cases e
 rename_i hck
 simp only [Bool.and_eq_true]at hck
 have hst:=X5T hck.1
 have hlen:args.length=L.params.size:=Nat.eq_of_beq_eq_true hck.2
 split at e
 case h_2=>cases e
 rename_i st h1
 split at e
 case h_2=>cases e
 rename_i L1 hL1
 have hL1:=X2h hL1
 split at e
 case h_2=>cases e
 rename_i hrd
 have hrd:=X5T hrd
 split at e
 case h_2=>cases e
 rename_i x st' h2
 split at e
 case h_2=>cases e
 rename_i L2 hL2
 have hL2:=X2h hL2
 cases e
 obtain⟨fn,tmps,D,hw,hT,hsz,hnt⟩:=H.lp b I _ hb hL
 have hal:=hr.length
 simp only [Array.length_toList]at hal
 refine⟨_,hw,by simp;omega,fun n=>?_⟩
 obtain⟨hT2,hsz2⟩:=XBU hnt hr L.params.toList L.tm tmps hT hsz
 have e0:X2R { state:=L.state,pending:=L.pend,fn:=fn,tmps:=tmps,params:=L.params,assign:=L.assign,body:=L.body,defers:=D } args' =
   (L.params.toList.zip args'.toList).foldl (fun t (x:Tmp×Value)=>t.setIfInBounds x.1 x.2) tmps:=X6m _ _
 rw [e0]
 have S0:X7U w.heap.size ρ L.nt ⟨XE1 L.nt L.tm L.params.toList args,h⟩ { tmps:=(L.params.toList.zip args'.toList).foldl (fun t (x:Tmp×Value)=>t.setIfInBounds x.1 x.2) tmps,defers:=[] } w :=
  ⟨H,hT2,.nil,hsz2,hnt,Nat.le_refl _⟩
 have hF:X2K (Fence.wide.inRound I.g):=.inr ⟨_,rfl⟩
 refine roundIn_of_wpIn (F:=Fence.wide) trivial (wpIn_mono (hex _ _ _ _ _ _ h1 _ hF (by simp) n _ ρ _ w S0) ?_)
 rintro e1 a1 w1 ⟨rfl,ρ1,g1,f1,S1⟩
 have hb1:=g1.ext b I hb
 obtain⟨fn1,tmps1,D1,hw1,hTa,hsa,hna⟩:=S1.h.lp b I _ hb1 hL1
 rw [hrd]at hw1
 refine⟨_,run_beginRound hw1 rfl,?_⟩
 have hlt1:I.g<w1.heap.size:=(Array.getElem?_eq_some_iff.1 hw1).1
 have H1:=S1.h.setObj (L':=.loop { L1 with state:=.busy }) hb1 hL1 (o':=.loop { state:=.busy,pending:=L1.pend,fn:=fn1,tmps:=tmps1,params:=L1.params,assign:=L1.assign,body:=L1.body,defers:=D1 }) rfl
  ⟨fn1,tmps1,D1,World.putObj_heap_same hlt1,hTa,hsa,hna⟩
 have f1':Fr ρ1 w1 (w1.putObj I.g (.loop { state:=.busy,pending:=L1.pend,fn:=fn1,tmps:=tmps1,params:=L1.params,assign:=L1.assign,body:=L1.body,defers:=D1 })):=(Fr.refl ρ1 w1).putObj (.inr ⟨b,I,hb1,rfl⟩)
 have S1':X7U w.heap.size ρ1 L.nt ⟨st.tm,st.h.setLoop b { L1 with state:=.busy }⟩ a1 (w1.putObj I.g (.loop { state:=.busy,pending:=L1.pend,fn:=fn1,tmps:=tmps1,params:=L1.params,assign:=L1.assign,body:=L1.body,defers:=D1 })) :=
  ⟨H1,S1.t,S1.d.go (.refl _ _) f1',S1.n,S1.s,by rw [World.putObj_size];exact S1.z⟩
 refine wpIn_mono (hex _ _ _ _ _ _ h2 _ hF (by simp) n _ ρ1 _ _ S1') ?_
 rintro e2 a2 w2 ⟨rfl,ρ2,g2,f2,S2⟩
 have hb2:=g2.ext b I hb1
 obtain⟨fn2,tmps2,D2,hw2,hTb,hsb,hnb⟩:=S2.h.lp b I _ hb2 hL2
 have hlt2:I.g<w2.heap.size:=(Array.getElem?_eq_some_iff.1 hw2).1
 have fin:∀ j:Option Code,(∀ q,q=(match j.isNone with | true=>LoopState.ready | false=>.done) →
   X0Y ρ2 (st'.h.setLoop b { L2 with state:=q,pend:=j }) (w2.putObj I.g (.loop { state:=q,pending:=j,fn:=fn2,tmps:=tmps2,params:=L2.params,assign:=L2.assign,body:=L2.body,defers:=D2 }))):=by
  intro j q _
  exact S2.h.setObj (L':=.loop { L2 with state:=q,pend:=j }) hb2 hL2 rfl ⟨fn2,tmps2,D2,World.putObj_heap_same hlt2,hTb,hsb,hnb⟩
 have ffin:∀ o,Fr ρ w (w2.putObj I.g o):=fun o=>((f1.trans g1 f1').trans g1 f2).putObj (.inr ⟨b,I,hb,rfl⟩)
 have gfin:X2A ρ ρ2 w:=(g1.trans f1.size ((X2A.refl ρ1 w1).trans f1'.size g2))
 cases x with
 | normal=>exact⟨_,_,run_endRound none hw2,_,ρ2,rfl,.plain rfl,fin none .ready rfl,gfin,ffin _⟩
 | exit id=>exact⟨_,_,run_endRound (some (.exit id)) hw2,_,ρ2,rfl,.plain rfl,fin (some (.exit id)) .done rfl,gfin,ffin _⟩
 | ret=>exact⟨_,_,run_endRound (some .ret) hw2,_,ρ2,rfl,.plain rfl,fin (some .ret) .done rfl,gfin,ffin _⟩
def X8p (P:Program) (ov:Ov):Prop:=∀ f g,ov f=some g→X24 P f g
theorem X2s {P:Program} {ov:Ov} (hov:X8p P ov) {ex:X2q} (hex:X5S P ex):X4h P (X1G P ov ex):=by
 refine⟨fun f args h v h' e=>?_,fun b args h v h' e=>?_⟩
 ·
  simp only [X1G]at e
  split at e
  ·
   rename_i r hk
   cases e
   unfold known at hk
   split at hk
   · rename_i g hg;exact hov f g hg args h v h' hk
   · cases hk
  · exact X58 hex f args h v h' e
 · exact X4n hex b args h v h' e
theorem X8q {P:Program} {g:FuncId} (h:XA4 P g=true) (args:Array Value) (w:World):(callFunc g args).run P w=.ok (.enter g args) w:=by
 unfold XA4 at h
 split at h
 case h_2=>cases h
 rename_i fn hfn
 split at h
 case h_1=>cases h
 rename_i hng
 have hng':¬ fn.name = "runtime.NumGoroutine" := by simpa using hng
 obtain⟨c,hb⟩:=Option.isSome_iff_exists.1 h
 simp [callFunc,hfn,hng',hb]
theorem X4o {P:Program} {call:X0E} (hcall:X4h P call) {n0 nt:Nat} {f:Operand} {ps:Array Tmp} {assign body:Code} {st st':St} {x:X} (e:X4m P call nt f ps assign body st=some (x,st'))
  {F:Fence} (hF:X2K F) (hro:F.round=none) {n:Nat} {ρ:Rho} {a:Act} {w:World} (S:X7U n0 ρ nt st a w):(Code.rangeFunc f ps assign body).wpIn F n P (X5s n0 ρ w nt x st') a w:=by
 unfold X4m at e
 split at e
 case h_2=>cases e
 rename_i g fi ca hf
 split at e
 case h_2=>cases e
 rename_i hck
 simp only [Bool.and_eq_true]at hck
 obtain⟨hfi,hent⟩:=hck
 split at e
 case h_2=>cases e
 rename_i b h1 hnew
 split at e
 case h_2=>cases e
 rename_i v0 h2 hc
 split at e
 case h_2=>cases e
 rename_i L2 hL2
 have hL2:=X2h hL2
 split at e
 case h_2=>cases e
 rename_i x' hnb hbx
 cases e
 have hnb:=X8o hnb
 have rf:=X06 S.h S.t hf
 obtain⟨fi',ca',hx'⟩:=rf.funcF
 rw [hx']at rf
 have hfi0:fi=#[]:=by simpa using hfi
 subst hfi0
 have hcap:fi'=#[]∧F2 (X0F ρ) ca.toList ca'.toList:=by
  cases rf.leaf (by simp) (by simp)with
  | plain hp=>simp [X03]at hp;subst hp;exact⟨rfl,.nil⟩
  | func p1 p2 =>
   refine⟨?_,p2.mono fun _ _ x=>.one (.one x.toL)⟩
   have:=p1.length;simp at this;exact Array.size_eq_zero_iff.1 this.symm
 obtain⟨rfl,hca⟩:=hcap
 refine wpIn_rangeFunc ?_
 intro fn hfn
 rw [hro]
 obtain⟨W1,hW1⟩:∃ W1,(w.alloc (.deferred (some []))).alloc (.loop { state:=.ready,pending:=none,fn:=fn,tmps:=a.tmps,params:=ps,assign:=assign,body:=body,defers:=w.heap.size })=W1:=⟨_,rfl⟩
 have hsz1:W1.heap.size=w.heap.size+2:=by rw [← hW1];simp
 have hL1:W1.heap[w.heap.size+1]?=some (.loop { state:=.ready,pending:=none,fn:=fn,tmps:=a.tmps,params:=ps,assign:=assign,body:=body,defers:=w.heap.size }):=by
  rw [← hW1];have:=World.alloc_heap_new (w.alloc (.deferred (some []))) (.loop { state:=.ready,pending:=none,fn:=fn,tmps:=a.tmps,params:=ps,assign:=assign,body:=body,defers:=w.heap.size });rwa [World.size_alloc]at this
 have old:∀ k,k<w.heap.size→W1.heap[k]?=w.heap[k]?:=by
  intro k hk
  rw [← hW1]
  show((w.heap.push _).push _)[k]?=_
  rw [Array.getElem?_push,if_neg (by simp;omega),Array.getElem?_push,if_neg (by omega)]
 have hK1:W1.heap[w.heap.size]?=some (.deferred (some [])):=by
  rw [← hW1]
  show((w.heap.push _).push _)[w.heap.size]?=_
  rw [Array.getElem?_push,if_neg (by simp),Array.getElem?_push,if_pos rfl]
 have hrest:W1.os=w.os∧W1.tape=w.tape∧W1.output=w.output:=by rw [← hW1];exact⟨rfl,rfl,rfl⟩
 obtain⟨H1,hbn,hbnone,hext⟩:=S.h.newObj hnew (g:=w.heap.size+1) (w':=W1) (by omega) (by omega) old (fun ρ' hx=>⟨fn,a.tmps,w.heap.size,hL1,S.t.ext hx,S.n,S.s⟩)
 have F1:Fr ρ w W1:=⟨hrest.1,hrest.2.1,hrest.2.2,by omega,fun k hk _=>old k hk⟩
 have G1:X2A ρ (upd ρ b ⟨w.heap.size+1,0,0,0,none⟩) w:=⟨hext,fun c J e=>by
  by_cases hc:c=b
  · subst hc;rw [X0J]at e;cases e;exact .inl (by simp)
  · rw [X0a _ _ _ hc]at e;exact .inr ⟨c,J,e,rfl⟩,fun c J e n=>by
  by_cases hc:c=b
  · subst hc;rw [X0J]at e;cases e;exact absurd rfl n
  · rw [X0a _ _ _ hc]at e;exact e⟩
 have un1:∀ c J,upd ρ b ⟨w.heap.size+1,0,0,0,none⟩ c=some J→J.g≠w.heap.size:=by
  intro c J e
  by_cases hc:c=b
  · subst hc;rw [X0J]at e;cases e;simp
  · rw [X0a _ _ _ hc]at e;have:=X0P S.h e;omega
 have hargs:F2 (X0F (upd ρ b ⟨w.heap.size+1,0,0,0,none⟩)) (.func (.yield b) #[] #[]::ca.toList) (#[Value.func (.yield (w.heap.size+1)) #[] #[]]++ca').toList:=by
  simp only [Array.toList_append,List.cons_append,List.nil_append]
  exact .cons (.one (.one (.yld (I:=⟨w.heap.size+1,0,0,0,none⟩) (X0J _ _ _)))) (hca.mono fun _ _ r=>r.ext hext)
 refine⟨w.heap.size+1,[mark w.heap.size],W1,{ target:=.fn (.func g) ca',args:=#[.func (.yield (w.heap.size+1)) #[] #[]] },W1,g,
  #[.func (.yield (w.heap.size+1)) #[] #[]]++ca',W1,?_,?_,?_,?_,hF.depth,?_⟩
 · rw [← hW1];exact run_enterLoop_outer _ _ _ _ _
 ·
  simp only [resolve,hx']
  simp [go_sem]
 · intro f' _;exact hF.fn f'
 · simp [invoke,X8q hent]
 ·
  refine(hF.calls (hcall.f g _ h1 v0 h2 hc _ W1 _ H1 hargs)).mono ?_
  rintro e2 W2 ⟨v',ρ2,rfl,_,H2,G2,F2'⟩
  have hb2:=G2.ext b _ (X0J ρ b ⟨w.heap.size+1,0,0,0,none⟩)
  obtain⟨fn2,tmps2,D2,hw2,hTb,hsb,hnb2⟩:=H2.lp b _ _ hb2 hL2
  have hlt2:w.heap.size+1<W2.heap.size:=(Array.getElem?_eq_some_iff.1 hw2).1
  have hend:=run_endLoop (P:=P) hw2 hnb
  have H3:=H2.setObj (L':=.loop { L2 with state:=.exhausted }) hb2 hL2 (o':=.loop { state:=.exhausted,pending:=L2.pend,fn:=fn2,tmps:=tmps2,params:=L2.params,assign:=L2.assign,body:=L2.body,defers:=D2 }) rfl
   ⟨fn2,tmps2,D2,World.putObj_heap_same hlt2,hTb,hsb,hnb2⟩
  have F12:Fr ρ w W2:=F1.trans G1 F2'
  have F3:∀ o,Fr ρ w (W2.putObj (w.heap.size+1) o):=fun o=>F12.putObj (.inl (by omega))
  have F3':∀ o,Fr ρ2 W2 (W2.putObj (w.heap.size+1) o):=fun o=>(Fr.refl ρ2 W2).putObj (.inr ⟨b,_,hb2,rfl⟩)
  have G3:X2A ρ ρ2 w:=G1.trans F1.size G2
  have M1:X5Q n0 (upd ρ b ⟨w.heap.size+1,0,0,0,none⟩) W1 w.heap.size:=⟨S.z,hK1,un1⟩
  have Dfin:∀ o,XBp n0 ρ2 (W2.putObj (w.heap.size+1) o) ([mark w.heap.size]++a.defers):=by
   intro o
   obtain⟨Ds,d1,d2,d3⟩:=S.d
   refine⟨w.heap.size::Ds,by rw [d1];rfl,?_,?_⟩
   ·
    rw [List.nodup_cons]
    refine⟨fun hm=>?_,d2⟩
    have:=(d3 _ hm).at_
    have:=(Array.getElem?_eq_some_iff.1 this).1
    omega
   ·
    intro E hE
    rcases List.mem_cons.1 hE with rfl | hE
    · exact(M1.go G2 F2').go (.refl _ _) (F3' o)
    · exact(((d3 E hE).go G1 F1).go G2 F2').go (.refl _ _) (F3' o)
  have Sfin:X7U n0 ρ2 nt ⟨st.tm,h2.setLoop b { L2 with state:=.exhausted }⟩ { a with defers:=[mark w.heap.size]++a.defers } (W2.putObj (w.heap.size+1) (.loop { state:=.exhausted,pending:=L2.pend,fn:=fn2,tmps:=tmps2,params:=L2.params,assign:=L2.assign,body:=L2.body,defers:=D2 })) :=
   ⟨H3,S.t.ext G3.ext,Dfin _,S.n,S.s,by rw [World.putObj_size];exact Nat.le_trans S.z F12.size⟩
  have Lfin:X55 n0 ρ w nt ⟨st.tm,h2.setLoop b { L2 with state:=.exhausted }⟩ { a with defers:=[mark w.heap.size]++a.defers } (W2.putObj (w.heap.size+1) (.loop { state:=.exhausted,pending:=L2.pend,fn:=fn2,tmps:=tmps2,params:=L2.params,assign:=L2.assign,body:=L2.body,defers:=D2 })):=⟨ρ2,G3,F3 _,Sfin⟩
  refine⟨L2.pend,_,hend,?_⟩
  unfold XE2 at hbx
  split at hbx
  · rename_i hp;cases hbx;rw [hp];exact⟨rfl,by rw [hp]at Lfin;exact Lfin⟩
  · rename_i hp;cases hbx;rw [hp];exact wpIn_ret ⟨rfl,by rw [hp]at Lfin;exact Lfin⟩
  · rename_i id hp;cases hbx;rw [hp];exact wpIn_exit ⟨rfl,by rw [hp]at Lfin;exact Lfin⟩
  · cases hbx
theorem X5s.trans {n0:Nat} {ρ ρ₁:Rho} {w w₁:World} {nt:Nat} {x:X} {st:St} (g:X2A ρ ρ₁ w) (f:Fr ρ w w₁) {e:Exit} {a':Act} {w':World} (h:X5s n0 ρ₁ w₁ nt x st e a' w'):X5s n0 ρ w nt x st e a' w':=⟨h.1,h.2.trans g f⟩
section
variable {P:Program} {F:Fence} {n:Nat} {b:Frame} {a:Act} {k:List Item} {cs:List Frame} {w:World} {Q:Exit→Act→World→Prop}
theorem X1Q {c:Code}:step P (lone (b.atR a (.code (.scope c)::k)) cs w)=.next (lone (b.atR a (.code c::.inScope c::k)) cs w) :=
 step_lone_go (by simp [stepG,stepG.exec,Frame.atR])
theorem X5v {c:Code}:step P (lone (b.atR a (.inScope c::k)) cs w)=.next (lone (b.atR a k) cs w) :=
 step_lone_go (by simp [stepG,stepG.exec,Frame.atR])
theorem X8r {c:Code} (h:c.wpIn F n P Q a w) (hg:∀ l a w,¬ Q (.goto l) a w):(Code.scope c).wpIn F n P Q a w:=by
 intro b k cs hro hb hr
 have h0:(lone (b.atR a (.code (.scope c)::k)) cs w).fenced P F:=fenced_calm hb hr rfl
 obtain⟨e,a₁,w₁,hq,harr⟩:=h b (.inScope c::k) cs hro hb hr
 cases e with
 | normal=>exact⟨.normal,a₁,w₁,hq,.head h0 X1Q (StepsIn.trans harr (.one (fenced_calm hb hr rfl) X5v))⟩
 | exit id =>
  have hx:exitTo id (.inScope c::k)=exitTo id k:=by simp [exitTo]
  exact⟨.exit id,a₁,w₁,hq,fun k' hk=>.head h0 X1Q (harr.1 k' (by rw [hx];exact hk)),
   fun hr' hk=>let ⟨k₁,h1,h2⟩:=harr.2 hr' (by rw [hx];exact hk);⟨k₁,h1,.head h0 X1Q h2⟩⟩
 | goto l=>exact absurd hq (hg l a₁ w₁)
 | ret=>exact⟨_,a₁,w₁,hq,.of_steps (.one h0 X1Q) harr⟩
 | panic ch=>exact⟨_,a₁,w₁,hq,.of_steps (.one h0 X1Q) harr⟩
 | outgrown=>exact⟨_,a₁,w₁,hq,.of_steps (.one h0 X1Q) harr⟩
end
theorem X8s {P:Program} {ov:Ov} (hov:X8p P ov) {dr:X0E→Nat→Array Oper→St→Option St} (hdr:DrOk P dr):∀ k,X5S P (exec P ov dr k):=by
 intro k
 induction k using Nat.strongRecOn with
 | _ k ih =>
 intro rd nt c st x st' e F hF hro n n0 ρ a w S
 cases k with
 | zero=>cases e
 | succ k =>
  have hex:X5S P (exec P ov dr k):=ih k (Nat.lt_succ_self k)
  have hcall:=X2s hov hex
  change X07 P ov dr (exec P ov dr k) rd nt c st=some (x,st')at e
  unfold X07 at e
  split at e
  · cases e;exact wpIn_skip ⟨rfl,.refl S⟩
  · cases e;exact wpIn_label ⟨rfl,.refl S⟩
  · cases e;exact wpIn_exit ⟨rfl,.refl S⟩
  · cases e;exact wpIn_ret ⟨rfl,.refl S⟩
  ·
   rename_i id ops
   split at e
   ·
    rename_i st₁ h1
    cases e
    rw [X4j]at h1
    refine wpIn_region ?_
    rw [List.range_eq_range']
    exact X5t hF hcall ops.size 0 ρ st st' a w (by omega) S h1 fun a' w' hl=>⟨rfl,hl⟩
   · cases e
  ·
   rename_i id ops
   split at e
   ·
    rename_i st₁ h1
    cases e
    exact hdr _ hcall id nt ops st st' h1 F hF n n0 ρ a w S
   · cases e
  ·
   rename_i c1 c2
   refine wpIn_seq ?_
   split at e
   ·
    rename_i st₁ h1
    refine wpIn_mono (hex _ _ _ _ _ _ h1 F hF hro n n0 ρ a w S) ?_
    rintro e1 a1 w1 ⟨rfl,ρ1,g,f,S1⟩
    exact wpIn_mono (hex _ _ _ _ _ _ e F hF hro n n0 ρ1 a1 w1 S1) fun _ _ _ hq=>hq.trans g f
   ·
    rename_i hne
    refine wpIn_mono (hex _ _ _ _ _ _ e F hF hro n n0 ρ a w S) ?_
    rintro e1 a1 w1 ⟨rfl,hl⟩
    cases x with
    | normal=>exact absurd e (hne st')
    | exit id=>exact⟨rfl,hl⟩
    | ret=>exact⟨rfl,hl⟩
  ·
   rename_i co c1 c2
   split at e
   ·
    rename_i hc
    have hc':=X0F.eq_of_plain (X06 S.h S.t hc) rfl
    exact wpIn_cond_true hc' (hex _ _ _ _ _ _ e F hF hro n n0 ρ a w S)
   ·
    rename_i hc
    have hc':=X0F.eq_of_plain (X06 S.h S.t hc) rfl
    exact wpIn_cond_false hc' (hex _ _ _ _ _ _ e F hF hro n n0 ρ a w S)
   · cases e
  ·
   rename_i id c1
   refine wpIn_block ?_
   split at e
   ·
    rename_i j st₁ h1
    refine wpIn_mono (hex _ _ _ _ _ _ h1 F hF hro n n0 ρ a w S) ?_
    rintro e1 a1 w1 ⟨rfl,hl⟩
    split at e
    ·
     rename_i hj
     cases e
     have hj:j=id:=Nat.eq_of_beq_eq_true hj
     show(if j=id then _ else _)
     rw [if_pos hj]
     exact⟨rfl,hl⟩
    ·
     rename_i hj
     cases e
     have hj:¬ j=id:=fun x=>by subst x;simp at hj
     show(if j=id then _ else _)
     rw [if_neg hj]
     exact⟨rfl,hl⟩
   ·
    rename_i hne
    refine wpIn_mono (hex _ _ _ _ _ _ e F hF hro n n0 ρ a w S) ?_
    rintro e1 a1 w1 ⟨rfl,hl⟩
    cases x with
    | normal=>exact⟨rfl,hl⟩
    | exit id=>exact absurd e (hne id st')
    | ret=>exact⟨rfl,hl⟩
  ·
   rename_i c1
   refine wpIn_loop_ghost (fun m a1 w1=>m≤k∧∃ st1 ρ1,X07 P ov dr (exec P ov dr m) rd nt (.loop c1) st1=some (x,st')∧X2A ρ ρ1 w∧Fr ρ w w1∧X7U n0 ρ1 nt st1 a1 w1) k ⟨Nat.le_refl k,st,ρ,e,.refl _ _,.refl _ _,S⟩ ?_
   rintro m a1 w1 ⟨hnk,st1,ρ1,e1,g1,f1,S1⟩
   have hexn:X5S P (exec P ov dr m):=ih m (by omega)
   simp only [X07]at e1
   split at e1
   ·
    rename_i st2 h2
    refine wpIn_mono (hexn _ _ _ _ _ _ h2 F hF hro n n0 ρ1 a1 w1 S1) ?_
    rintro e2 a2 w2 ⟨rfl,ρ2,g2,f2,S2⟩
    cases m with
    | zero=>cases e1
    | succ m =>
     exact⟨m,Nat.lt_succ_self m,by omega,st2,ρ2,e1,g1.trans f1.size g2,f1.trans g1 f2,S2⟩
   ·
    rename_i hne
    refine wpIn_mono (hexn _ _ _ _ _ _ e1 F hF hro n n0 ρ1 a1 w1 S1) ?_
    rintro e2 a2 w2 ⟨rfl,hl⟩
    cases x with
    | normal=>exact absurd e1 (hne st')
    | exit id=>exact⟨rfl,hl.trans g1 f1⟩
    | ret=>exact⟨rfl,hl.trans g1 f1⟩
  ·
   rename_i c1
   refine X8r (hex _ _ _ _ _ _ e F hF hro n n0 ρ a w S) ?_
   rintro l a' w' ⟨hx,_⟩
   cases x<;>cases hx
  ·
   rename_i f ps assign body
   split at e
   · cases e
   · exact X4o hcall e hF (hro rfl) S
  · cases e
end
end Go.Vai

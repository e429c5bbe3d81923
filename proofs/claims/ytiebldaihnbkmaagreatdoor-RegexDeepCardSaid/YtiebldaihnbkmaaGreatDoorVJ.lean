/-
  What is proved here: one operation of a plain interpreter of Go code, whatever it is, is matched by the machine's (part J: the proof). Condition: the functions that it calls are matched.
-/
import Derived.Test.YtiebldaihnbkmaaGreatDoorVI
set_option linter.unusedVariables false
set_option linter.unusedSimpArgs false
set_option linter.unusedVariables false
set_option linter.unusedSimpArgs false
namespace Go.Vai
noncomputable section
theorem withH_inv {h h' : Heap} {o : Option Value} {v : Value} (e : withH h o = some (v, h')) : o = some v ∧ h' = h := by
 unfold withH at e
 split at e
 · cases e; exact ⟨rfl, rfl⟩
 · cases e
def Next1 (ρ : Rho) (w : World) (a : Act) (o : Oper) (v : Value) (h' : Heap) (next : Act → World → Prop) : Prop :=
 ∀ v' ρ' w', VRel ρ' v v' → HRel ρ' h' w' → Grow ρ ρ' w → Fr ρ w w' → next (a.put o.dst v') w'
def WideF (F : Fence) : Prop := F = Fence.wide ∨ ∃ l, F = Fence.wide.inRound l
theorem WideF.fn {F : Fence} (h : WideF F) (f : FuncId) : F.fn f := by
 rcases h with rfl | ⟨l, rfl⟩ <;> exact trivial
theorem WideF.calls {F : Fence} (h : WideF F) {n : Nat} {P : Program} {f : FuncId} {args : Array Value} {w : World} {R : Ending → World → Prop} (k : Calls P f args w R) : CallsIn F n P f args w R := by
 rcases h with rfl | ⟨l, rfl⟩
 · exact callsIn_wide.2 k
 ·
  have := (callsIn_wide (n := n)).2 k
  exact this
theorem WideF.depth {F : Fence} (h : WideF F) {p : Prop} : F.depth.isSome = true → p := by
 rcases h with rfl | ⟨l, rfl⟩ <;> (intro x; cases x)
theorem WideF.round {F : Fence} (h : WideF F) {n : Nat} {P : Program} {l : Nat} {f : FuncId} {tmps : Array Value} {assign body : Code} {w : World} {R : Ending → World → Prop} (k : RoundIn Fence.wide n P l f tmps assign body w R) : RoundIn F n P l f tmps assign body w R := by
 rcases h with rfl | ⟨l, rfl⟩
 · exact k
 · exact k
section
variable {P : Program} {F : Fence} {n : Nat} {ρ : Rho} {h h' : Heap} {w : World} {a : Act} {o : Oper} {v : Value} {next : Act → World → Prop} {Q : Exit → Act → World → Prop}
theorem wp_of_SM (hF : WideF F) {s : Sem Value} (he : execOp a.eval o = (do pure (.value (← s)))) (k : SM P ρ w s v h') (N : Next1 ρ w a o v h' next) (hd : ∀ c, o.op ≠ .defer c := by simp) : o.wpIn F n P a w next Q := by
 obtain ⟨v', ρ', w', h1, h2, h3, h4, h5⟩ := k
 refine ⟨fun f _ => hF.fn f, ?_⟩
 rw [Oper.semAt_eq _ _ _ hd, he, Sem.run_bind, h1]
 exact N v' ρ' w' h2 h3 h4 h5
theorem wp_of_SP (hF : WideF F) (H : HRel ρ h w) {s : Sem Value} (he : execOp a.eval o = (do pure (.value (← s)))) (k : SP P ρ s v) (N : Next1 ρ w a o v h next) (hd : ∀ c, o.op ≠ .defer c := by simp) : o.wpIn F n P a w next Q :=
 wp_of_SM hF he (k.toSM H) N hd
theorem wp_of_val (hF : WideF F) (H : HRel ρ h w) {x : Value} (he : execOp a.eval o = pure (.value x)) (k : VRel ρ v x) (N : Next1 ρ w a o v h next) (hd : ∀ c, o.op ≠ .defer c := by simp) : o.wpIn F n P a w next Q := by
 refine ⟨fun f _ => hF.fn f, ?_⟩
 rw [Oper.semAt_eq _ _ _ hd, he]
 exact N x ρ w k H (.refl _ _) (.refl _ _)
end
theorem F2.map_toList {ρ : Rho} {vs : List Value} {xs : Array Operand} {f : Operand → Value} (h : F2 (VRel ρ) vs (xs.toList.map f)) : F2 (VRel ρ) vs (xs.map f).toList := by simpa using h
theorem isPR_sound {ρ : Rho} {v v' : Value} (h : isPR v = true) (r : VRel ρ v v') : PRel ρ v v' := by
 unfold isPR at h
 rw [Bool.or_eq_true] at h
 rcases h with h | h
 · have := r.eq_of_plain h; subst this; exact .plain h
 ·
  split at h
  · obtain ⟨I, hb, rfl⟩ := r.ptr_inv; exact .ptr hb
  ·
   cases r.leaf (by simp) (by simp) with
   | plain hp => simp [leafPlain] at hp
   | yld hb => exact .yld hb
  · cases h
theorem isPR_list {ρ : Rho} {l m : List Value} (h : F2 (VRel ρ) l m) : l.all isPR = true → F2 (PRel ρ) l m := by
 induction h with
 | nil => intro _; exact .nil
 | cons h t ih =>
  intro hp
  simp only [List.all_cons, Bool.and_eq_true] at hp
  exact .cons (isPR_sound hp.1 h) (ih hp.2)
theorem F2.eq_of_all {ρ : Rho} {l m : List Value} (h : F2 (VRel ρ) l m) : l.all cellsPlain = true → m = l := by
 induction h with
 | nil => intro _; rfl
 | cons h t ih =>
  intro hp
  simp only [List.all_cons, Bool.and_eq_true] at hp
  rw [h.eq_of_cellsPlain hp.1, ih hp.2]
theorem mapM_places {P : Program} {w : World} : ∀ (fs : List Field) (places : List (Nat × Nat)), fs.mapM (fun f => (sz P f.type).map fun n => (f.offset, n)) = some places →
  (fs.mapM (m := Sem) fun f => do pure (f.offset, ← sizeOf f.type)).run P w = .ok places w := by
 intro fs
 induction fs with
 | nil => intro places h; simp at h; subst h; rfl
 | cons f fs ih =>
  intro places h
  simp only [List.mapM_cons, Option.bind_eq_bind, Option.bind_eq_some_iff, Option.map_eq_some_iff, Option.pure_def, Option.some.injEq] at h
  obtain ⟨p, ⟨n, hn, rfl⟩, ps, hps, rfl⟩ := h
  simp only [List.mapM_cons, Sem.run_bind, run_sz hn, Result.andThen_ok, Sem.run_pure, ih ps hps]
theorem aBuild_sound {P : Program} {ρ : Rho} {t : TypeId} {parts : List (Nat × Value)} {parts' : Array (Nat × Value)} {v : Value} (e : aBuild P t parts = some v) (r : F2 (fun p p' => p.1 = p'.1 ∧ VRel ρ p.2 p'.2) parts parts'.toList) : SP P ρ (Instr.build t parts') v := by
 unfold aBuild at e
 split at e
 case h_2 => cases e
 rename_i z hz
 have hzr : F2 (LRel ρ) z.cells.toList z.cells.toList := F2.refl _ fun x hx => .plain (List.all_eq_true.1 (cellsAll_of (aZero_plain hz)) x hx)
 split at e
 ·
  rename_i fields hu
  split at e
  case h_2 => cases e
  rename_i places hp
  split at e
  case h_2 => cases e
  rename_i l hl
  cases e
  obtain ⟨l', q1, q2, _⟩ := aFill_sound parts parts'.toList _ l z.cells hl r hzr
  refine ⟨.agg l', fun w => ?_, .one (.agg q2)⟩
  have hm := mapM_places (P := P) (w := w) fields.toList places hp
  have hm2 : (fields.mapM (m := Sem) fun f => do pure (f.offset, ← sizeOf f.type)).run P w = .ok places.toArray w := by
   rw [Array.mapM_eq_mapM_toList, Sem.run_map, hm]; rfl
  simp only [Instr.build, Sem.run_bind, run_zero hz, Result.andThen_ok, run_underlying_some hu, hm2]
  rw [q1]; rfl
 ·
  rename_i n elem hu
  split at e
  case h_2 => cases e
  rename_i size hs
  split at e
  case h_2 => cases e
  rename_i l hl
  cases e
  obtain ⟨l', q1, q2, _⟩ := aFill_sound parts parts'.toList _ l z.cells hl r hzr
  refine ⟨.agg l', fun w => ?_, .one (.agg q2)⟩
  simp only [Instr.build, Sem.run_bind, run_zero hz, Result.andThen_ok, run_underlying_some hu, run_sz hs]
  rw [q1]; rfl
 · cases e
theorem aLen_sound {P : Program} {ρ : Rho} {argTypes : Array TypeId} {ty : TypeId} {x x' v : Value} (e : aLen P argTypes ty x = some v) (r : VRel ρ x x') : SP P ρ (Builtin.len_ argTypes ty #[x']) v := by
 unfold aLen at e
 split at e
 case h_2 => cases e
 rename_i t ht
 split at e
 ·
  rename_i el bs n c hu
  cases e
  refine ⟨.int .i64 n, fun w => ?_, .plain rfl⟩
  cases r.leaf (by simp) (by simp) with
  | plain hp => simp [Builtin.len_, ht, run_underlying_some hu, goInt]
  | slice => simp [Builtin.len_, ht, run_underlying_some hu, goInt]
  | sliceE => simp [Builtin.len_, ht, run_underlying_some hu, goInt]
 ·
  rename_i s hu
  cases e
  have := r.eq_of_plain rfl; subst this
  exact ⟨.int .i64 s.size, fun w => by simp [Builtin.len_, ht, run_underlying_some hu, goInt], .plain rfl⟩
 ·
  rename_i n el hu
  cases e
  exact ⟨.int .i64 n, fun w => by simp [Builtin.len_, ht, run_underlying_some hu, goInt], .plain rfl⟩
 · cases e
theorem stepOp_sound {P : Program} {F : Fence} (hF : WideF F) {n : Nat} {call : CallFn} (hcall : CallOk P call) {ρ : Rho} {h h' : Heap} {w : World} {a : Act} {o : Oper} {tm : Tr Value} {v : Value} {next : Act → World → Prop} {Q : Exit → Act → World → Prop}
  (H : HRel ρ h w) (T : TRel ρ tm a.tmps) (e : stepOp P call o tm h = some (v, h')) (N : Next1 ρ w a o v h' next) : o.wpIn F n P a w next Q := by
 obtain ⟨dst, op, ty, pos, after, guard⟩ := o
 unfold stepOp at e
 cases op with
 | move x =>
  obtain ⟨e1, rfl⟩ := withH_inv e
  exact wp_of_val hF H rfl (aev_sound H T e1) N
 | assign x =>
  obtain ⟨e1, rfl⟩ := withH_inv e
  exact wp_of_val hF H rfl (aev_sound H T e1) N
 | pick c x y =>
  simp only at e
  split at e
  ·
   rename_i hc
   obtain ⟨e1, rfl⟩ := withH_inv e
   have hc' := VRel.eq_of_plain (aev_sound H T hc) rfl
   refine wp_of_val (x := a.eval x) hF H ?_ (aev_sound H T e1) N
   simp [execOp, hc', asBool]
  ·
   rename_i hc
   obtain ⟨e1, rfl⟩ := withH_inv e
   have hc' := VRel.eq_of_plain (aev_sound H T hc) rfl
   refine wp_of_val (x := a.eval y) hF H ?_ (aev_sound H T e1) N
   simp [execOp, hc', asBool]
  · cases e
 | alloc elem => exact wp_of_SM hF rfl (aAlloc_sound (P := P) H e) N
 | box elem x =>
  simp only at e
  split at e
  · rename_i u hu; exact wp_of_SM hF rfl (aBox_sound (P := P) H e (aev_sound H T hu)) N
  · cases e
 | build t parts =>
  simp only at e
  split at e
  ·
   rename_i ps hps
   obtain ⟨e1, rfl⟩ := withH_inv e
   exact wp_of_SP hF H rfl (aBuild_sound e1 (by have := aevP_sound H T hps; simpa using this)) N
  · cases e
 | buildSlice t len parts =>
  simp only at e
  split at e
  ·
   rename_i ps hps
   exact wp_of_SM hF rfl (aBuildSlice_sound (P := P) H e (by have := aevP_sound H T hps; simpa using this)) N
  · cases e
 | load t x =>
  simp only at e
  split at e
  ·
   rename_i u hu
   obtain ⟨e1, rfl⟩ := withH_inv e
   obtain ⟨v', q1, q2⟩ := aLoad_sound (P := P) H e1 (aev_sound H T hu)
   exact wp_of_SM hF rfl ⟨v', ρ, w, q1, q2, H, .refl _ _, .refl _ _⟩ N
  · cases e
 | store t x y =>
  simp only at e
  split at e
  ·
   rename_i va vx ha hx
   split at e
   ·
    rename_i h₁ hs
    cases e
    obtain ⟨w', q1, q2, q3⟩ := aStore_sound (P := P) H hs (aev_sound H T ha) (aev_sound H T hx)
    refine ⟨fun f _ => hF.fn f, ?_⟩
    have : (execOp a.eval ⟨dst, .store t x y, ty, pos, after, guard⟩).run P w = .ok .skip w' := by
     simp [execOp, q1]
    rw [Oper.semAt_eq _ _ _ (by simp), this]
    exact N undef ρ w' (.tuple .nil) q2 (.refl _ _) q3
   · cases e
  · cases e
 | nilCheck x =>
  simp only at e
  split at e
  ·
   rename_i b i hx
   cases e
   obtain ⟨I, hb, hx'⟩ := (aev_sound H T hx).ptr_inv
   refine wp_of_val (x := .pointer (some ⟨I.g, I.o + i, none⟩)) hF H ?_ (.ptr hb) N
   simp [execOp, hx']
  ·
   rename_i f fi ca hx
   cases e
   have r := aev_sound H T hx
   obtain ⟨fi', ca', hx'⟩ := r.funcF
   rw [hx'] at r
   refine wp_of_val (x := .func (.func f) fi' ca') hF H ?_ r N
   simp [execOp, hx']
  · cases e
 | binOp op t x y yt =>
  simp only at e
  split at e
  ·
   rename_i vx vy hx hy
   obtain ⟨e1, rfl⟩ := withH_inv e
   exact wp_of_SP hF H rfl (aBin_sound e1 (aev_sound H T hx) (aev_sound H T hy)) N
  · cases e
 | unOp op t x =>
  simp only at e
  split at e
  ·
   rename_i u hu
   split at e
   ·
    rename_i hp
    obtain ⟨e1, rfl⟩ := withH_inv e
    have hx' := (aev_sound H T hu).eq_of_cellsPlain hp
    exact wp_of_SP (s := Op.unary op u) hF H (by simp [execOp, hx']) (apure_sound e1) N
   · cases e
  · cases e
 | convert s d x =>
  simp only at e
  split at e
  · rename_i u hu; exact wp_of_SM hF rfl (aConvert_sound (P := P) H e (aev_sound H T hu)) N
  · cases e
 | makeInterface t x =>
  simp only at e
  split at e
  ·
   rename_i u hu
   split at e
   ·
    rename_i hp
    obtain ⟨e1, rfl⟩ := withH_inv e
    have hx' := (aev_sound H T hu).eq_of_cellsPlain hp
    exact wp_of_SP (s := Instr.makeInterface t u) hF H (by simp [execOp, hx']) (apure_sound e1) N
   · cases e
  · cases e
 | makeFunc fn fi ca =>
  simp only at e
  split at e
  ·
   rename_i l m hl hm
   split at e
   ·
    rename_i hp
    simp only [Bool.and_eq_true] at hp
    obtain ⟨hp, hfn⟩ := hp
    cases e
    obtain ⟨g, rfl⟩ : ∃ g, fn = .func g := by
     cases fn <;> first | exact ⟨_, rfl⟩ | cases hfn
    refine wp_of_val (x := .func (.func g) (fi.map a.eval) (ca.map a.eval)) hF H rfl ?_ N
    refine .one (.one (.func ?_ ?_))
    · have := isPR_list (aevL_sound H T hl) hp.1; simpa using this
    · have := isPR_list (aevL_sound H T hm) hp.2; simpa using this
   · cases e
  · cases e
 | makeSlice t l c =>
  simp only at e
  split at e
  ·
   rename_i vl vc hl hc
   exact wp_of_SM hF rfl (aMakeSlice_sound (P := P) H e (aev_sound H T hl) (aev_sound H T hc)) N
  · cases e
 | slice t x lo hi mx =>
  simp only at e
  split at e
  ·
   rename_i u l m k hu hl hm hk
   obtain ⟨e1, rfl⟩ := withH_inv e
   exact wp_of_SP hF H rfl (aSlice_sound H e1 (aev_sound H T hu) (aevO_sound H T hl) (aevO_sound H T hm) (aevO_sound H T hk)) N
  · cases e
 | fieldAddr t x f =>
  simp only at e
  split at e
  ·
   rename_i u hu
   obtain ⟨e1, rfl⟩ := withH_inv e
   exact wp_of_SP hF H rfl (aFieldAddr_sound e1 (aev_sound H T hu)) N
  · cases e
 | field t x f =>
  simp only at e
  split at e
  ·
   rename_i u hu
   obtain ⟨e1, rfl⟩ := withH_inv e
   exact wp_of_SP hF H rfl (aField_sound e1 (aev_sound H T hu)) N
  · cases e
 | indexAddr t x i =>
  simp only at e
  split at e
  ·
   rename_i u j hu hj
   obtain ⟨e1, rfl⟩ := withH_inv e
   exact wp_of_SP hF H rfl (aIndexAddr_sound e1 (aev_sound H T hu) (aev_sound H T hj)) N
  · cases e
 | index t x i =>
  simp only at e
  split at e
  ·
   rename_i u j hu hj
   obtain ⟨e1, rfl⟩ := withH_inv e
   exact wp_of_SP hF H rfl (aIndex_sound e1 (aev_sound H T hu) (aev_sound H T hj)) N
  · cases e
 | range t x =>
  simp only at e
  split at e
  · rename_i u hu; exact wp_of_SM hF rfl (aRange_sound (P := P) H e (aev_sound H T hu)) N
  · cases e
 | next it isString =>
  simp only at e
  split at e
  · rename_i u hu; exact wp_of_SM hF rfl (aNext_sound (P := P) H e (aev_sound H T hu)) N
  · cases e
 | extract x i =>
  simp only at e
  split at e
  ·
   rename_i u hu
   obtain ⟨e1, rfl⟩ := withH_inv e
   exact wp_of_SP hF H rfl (aExtract_sound e1 (aev_sound H T hu)) N
  · cases e
 | call c =>
  obtain ⟨callee, args, argTypes⟩ := c
  simp only at e
  split at e
  ·
   split at e
   ·
    rename_i s x hl
    have r := aevL_sound H T hl
    have hargs : ∃ s' x', args.map a.eval = #[s', x'] ∧ VRel ρ s s' ∧ VRel ρ x x' := by
     generalize hm : args.toList.map a.eval = m at r
     cases r with
     | cons r1 r2 => cases r2 with
      | cons r2 r3 => cases r3; exact ⟨_, _, Array.toList_inj.1 (by simpa using hm), r1, r2⟩
    obtain ⟨s', x', ha, rs, rx⟩ := hargs
    refine wp_of_SM hF (s := Builtin.append_ argTypes ty #[s', x']) ?_ (aAppend_sound (P := P) H e rs rx) N
    simp [execOp, resolve, invoke, builtin, ha]
   · cases e
  ·
   split at e
   ·
    rename_i s x hl
    have r := aevL_sound H T hl
    have hargs : ∃ s' x', args.map a.eval = #[s', x'] ∧ VRel ρ s s' ∧ VRel ρ x x' := by
     generalize hm : args.toList.map a.eval = m at r
     cases r with
     | cons r1 r2 => cases r2 with
      | cons r2 r3 => cases r3; exact ⟨_, _, Array.toList_inj.1 (by simpa using hm), r1, r2⟩
    obtain ⟨s', x', ha, rs, rx⟩ := hargs
    refine wp_of_SM hF (s := Builtin.copy_ argTypes ty #[s', x']) ?_ (aCopy_sound (P := P) H e rs rx) N
    simp [execOp, resolve, invoke, builtin, ha]
   · cases e
  ·
   split at e
   ·
    rename_i x hl
    have r := aevL_sound H T hl
    have hargs : ∃ x', args.map a.eval = #[x'] ∧ VRel ρ x x' := by
     generalize hm : args.toList.map a.eval = m at r
     cases r with
     | cons r1 r2 => cases r2; exact ⟨_, Array.toList_inj.1 (by simpa using hm), r1⟩
    obtain ⟨x', ha, rx⟩ := hargs
    refine wp_of_SM hF (s := Builtin.clear_ argTypes ty #[x']) ?_ (aClear_sound (P := P) H e rx) N
    simp [execOp, resolve, invoke, builtin, ha]
   · cases e
  ·
   split at e
   ·
    rename_i x hl
    obtain ⟨e1, rfl⟩ := withH_inv e
    have r := aevL_sound H T hl
    have hargs : ∃ x', args.map a.eval = #[x'] ∧ VRel ρ x x' := by
     generalize hm : args.toList.map a.eval = m at r
     cases r with
     | cons r1 r2 => cases r2; exact ⟨_, Array.toList_inj.1 (by simpa using hm), r1⟩
    obtain ⟨x', ha, rx⟩ := hargs
    refine wp_of_SP (s := Builtin.cap_ argTypes ty #[x']) hF H ?_ (aCap_sound e1 rx) N
    simp [execOp, resolve, invoke, builtin, ha]
   · cases e
  ·
   split at e
   ·
    rename_i x hl
    obtain ⟨e1, rfl⟩ := withH_inv e
    have r := aevL_sound H T hl
    have hargs : ∃ x', args.map a.eval = #[x'] ∧ VRel ρ x x' := by
     generalize hm : args.toList.map a.eval = m at r
     cases r with
     | cons r1 r2 => cases r2; exact ⟨_, Array.toList_inj.1 (by simpa using hm), r1⟩
    obtain ⟨x', ha, rx⟩ := hargs
    refine wp_of_SP (s := Builtin.len_ argTypes ty #[x']) hF H ?_ (aLen_sound e1 rx) N
    simp [execOp, resolve, invoke, builtin, ha]
   · cases e
  ·
   split at e
   ·
    rename_i l hl
    split at e
    ·
     rename_i hp
     obtain ⟨e1, rfl⟩ := withH_inv e
     have hm := (aevL_sound H T hl).eq_of_all hp
     have ha : args.map a.eval = l.toArray := Array.toList_inj.1 (by simpa using hm)
     refine wp_of_SP (s := Builtin.min_ argTypes ty l.toArray) hF H ?_ (apure_sound e1) N
     simp [execOp, resolve, invoke, builtin, ha]
    · cases e
   · cases e
  ·
   split at e
   ·
    rename_i l hl
    split at e
    ·
     rename_i hp
     obtain ⟨e1, rfl⟩ := withH_inv e
     have hm := (aevL_sound H T hl).eq_of_all hp
     have ha : args.map a.eval = l.toArray := Array.toList_inj.1 (by simpa using hm)
     refine wp_of_SP (s := Builtin.max_ argTypes ty l.toArray) hF H ?_ (apure_sound e1) N
     simp [execOp, resolve, invoke, builtin, ha]
    · cases e
   · cases e
  ·
   rename_i f
   split at e
   ·
    rename_i g fi ca l hf hl
    split at e
    case h_2 => cases e
    rename_i fn hfn
    split at e
    case h_1 => cases e
    rename_i hng
    have rf := aev_sound H T hf
    have rl := aevL_sound H T hl
    have hfun : ∃ fi' ca', a.eval f = .func (.func g) fi' ca' ∧ F2 (VRel ρ) fi.toList fi'.toList ∧ F2 (VRel ρ) ca.toList ca'.toList := by
     obtain ⟨fi', ca', hx'⟩ := rf.funcF
     rw [hx'] at rf
     refine ⟨fi', ca', hx', ?_⟩
     cases rf.leaf (by simp) (by simp) with
     | plain hp => simp [leafPlain] at hp; obtain ⟨e1, e2⟩ := hp; subst e1 e2; exact ⟨.nil, .nil⟩
     | func p1 p2 => exact ⟨p1.mono fun _ _ x => .one (.one x.toL), p2.mono fun _ _ x => .one (.one x.toL)⟩
    obtain ⟨fi', ca', hx', r1, r2⟩ := hfun
    have hall : F2 (VRel ρ) (fi.toList ++ l ++ ca.toList) (fi' ++ args.map a.eval ++ ca').toList := by
     have := (r1.append rl).append r2
     simpa using this
    have hexec : execOp a.eval ⟨dst, .call ⟨.value f, args, argTypes⟩, ty, pos, after, guard⟩ = callFunc g (fi' ++ args.map a.eval ++ ca') := by
     simp only [execOp, resolve, Deferred.ofValue, hx', pure_bind]; rfl
    split at e
    ·
     rename_i c hb
     have hrun : (callFunc g (fi' ++ args.map a.eval ++ ca')).run P w = .ok (.enter g (fi' ++ args.map a.eval ++ ca')) w := by
      have hng' : ¬ fn.name = "runtime.NumGoroutine" := by simpa using hng
      simp [callFunc, hfn, hng', hb]
     refine ⟨fun f _ => hF.fn f, ?_⟩
     rw [Oper.semAt_eq _ _ _ (by simp), hexec, hrun, Oper.uponIn_enter]
     refine ⟨hF.depth, (hF.calls (hcall.f g _ h v h' e ρ w _ H hall)).mono ?_⟩
     rintro e' w' ⟨v', ρ', rfl, q1, q2, q3, q4⟩
     exact N v' ρ' w' q1 q2 q3 q4
    ·
     split at e
     case h_2 => cases e
     rename_i hp
     split at e
     case h_2 => cases e
     rename_i u hu
     split at e
     case h_2 => cases e
     rename_i hpu
     cases e
     have hm := hall.eq_of_all hp
     have ha : (fi' ++ args.map a.eval ++ ca') = (fi.toList ++ l ++ ca.toList).toArray := Array.toList_inj.1 (by simpa using hm)
     have hr := prun_run _ hu w
     refine ⟨fun f _ => hF.fn f, ?_⟩
     rw [Oper.semAt_eq _ _ _ (by simp), hexec, ha, hr]
     exact N v ρ w (.of_cellsPlain hpu) H (.refl _ _) (.refl _ _)
   ·
    rename_i b _ _ l hf hl
    have rl := aevL_sound H T hl
    obtain ⟨I, hb, hx'⟩ := (aev_sound H T hf).funcY
    obtain ⟨r, hr, hs, hround⟩ := hcall.y b _ h v h' e ρ w (args.map a.eval) I H hb rl.map_toList
    have hexec : execOp a.eval ⟨dst, .call ⟨.value f, args, argTypes⟩, ty, pos, after, guard⟩ = Instr.yield I.g (args.map a.eval) := by
     simp only [execOp, resolve, Deferred.ofValue, hx', pure_bind]
     simp [invoke]
    refine ⟨fun f _ => hF.fn f, ?_⟩
    rw [Oper.semAt_eq _ _ _ (by simp), hexec, run_yield hr hs, Oper.uponIn_round]
    refine ⟨hF.depth, (hF.round (hround (n - 1))).mono ?_⟩
    rintro e' w' ⟨v', ρ', rfl, q1, q2, q3, q4⟩
    exact N v' ρ' w' q1 q2 q3 q4
   · cases e
  · cases e
 | _ => cases e
end
end Go.Vai

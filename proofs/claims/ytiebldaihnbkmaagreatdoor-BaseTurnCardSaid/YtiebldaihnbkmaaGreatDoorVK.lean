/-
  What is proved here: what a plain interpreter of Go code comes to in a body, or in a call, the machine comes to (part K). Condition: so it does in regions that leave their order open.
-/
import Derived.Test.YtiebldaihnbkmaaGreatDoorVJ
import Derived.Deep.LoopGhost
set_option linter.unusedVariables false
set_option linter.unusedSimpArgs false
namespace Go.Vai

theorem VRel.bool_back {ρ : Rho} {v : Value} {b : Bool} (r : VRel ρ v (.bool b)) : v = .bool b := by
  cases r with
  | one k => cases k with
    | one k => cases k with
      | plain h => rfl

theorem put_size (a : Act) (dst : Option Tmp) (v : Value) : (a.put dst v).tmps.size = a.tmps.size := by
  cases dst <;> simp [Act.put]
theorem put_defers (a : Act) (dst : Option Tmp) (v : Value) : (a.put dst v).defers = a.defers := by
  cases dst <;> rfl
theorem TRel.put {ρ : Rho} {tm : Tr Value} {a : Act} {nt : Nat} (T : TRel ρ tm a.tmps) (hn : a.tmps.size = nt) (hs : nt < 1000000) {v v' : Value} (r : VRel ρ v v') (dst : Option Nat) : TRel ρ (aput nt tm dst v) (a.put dst v').tmps := by
  intro t
  cases dst with
  | none => exact T t
  | some d =>
    simp only [aput]
    split
    · rename_i hd
      have hd : d < nt := by simpa using hd
      by_cases e : t = d
      · subst e
        rw [Tr.get_put_same (by omega)]
        have : (a.put (some t) v').tmps.getD t undef = v' := by
          simp [Act.put, Array.getD_eq_getD_getElem?, Array.getElem?_setIfInBounds]
          rw [if_pos (by omega)]; rfl
        rw [this]; exact r
      · rw [Tr.get_put_other e]
        have : (a.put (some d) v').tmps.getD t undef = a.tmps.getD t undef := by
          simp only [Act.put, Array.getD_eq_getD_getElem?, Array.getElem?_setIfInBounds]
          rw [if_neg (fun x => e x.symm)]
        rw [this]; exact T t
    · rename_i hd
      have hd : ¬ d < nt := fun hx => by
        have hy : Nat.blt d nt = true := by simpa using hx
        rw [hy] at hd; cases hd
      have : (a.put (some d) v').tmps = a.tmps := by
        simp only [Act.put]; exact Array.setIfInBounds_eq_of_size_le (by omega)
      rw [this]; exact T t

theorem aYield_eq {ρ : Rho} {tm : Tr Value} {a : Act} {ops : Array Oper} (T : TRel ρ tm a.tmps) : aYield ops tm = yielded ops a.tmps := by
  funext j
  unfold aYield yielded
  cases hd : (ops[j]?).bind (·.dst) with
  | none => simp
  | some d =>
    simp only [Option.bind_some]
    have r := T d
    rw [Array.getD_eq_getD_getElem?] at r
    cases ht : a.tmps[d]? with
    | none =>
      rw [ht] at r
      simp only [Option.getD_none] at r
      generalize hv : (tm.get d).getD undef = v at r
      cases v with
      | bool b => have := r.eq_of_plain rfl; cases this
      | _ => rfl
    | some x =>
      rw [ht] at r
      simp only [Option.getD_some] at r
      generalize hv : (tm.get d).getD undef = v at r
      cases x with
      | bool b => have := r.bool_back; subst this; rfl
      | _ => cases v with
        | bool b => have := r.eq_of_plain rfl; cases this
        | _ => rfl

/-- A state, as the plain interpreter and as the machine has it. -/
structure SRel (ρ : Rho) (nt : Nat) (st : St) (a : Act) (w : World) : Prop where
  h : HRel ρ st.h w
  t : TRel ρ st.tm a.tmps
  d : a.defers = []
  n : a.tmps.size = nt
  s : nt < 1000000
/-- A state that is gone on to. -/
def Later (ρ : Rho) (w : World) (nt : Nat) (st : St) (a' : Act) (w' : World) : Prop := ∃ ρ', Grow ρ ρ' w ∧ Fr ρ w w' ∧ SRel ρ' nt st a' w'
def X.toExit : X → Exit
  | .normal => .normal
  | .exit id => .exit id
  | .ret => .ret
def PostX (ρ : Rho) (w : World) (nt : Nat) (x : X) (st : St) : Exit → Act → World → Prop := fun e a' w' => e = x.toExit ∧ Later ρ w nt st a' w'

theorem Later.refl {ρ : Rho} {nt : Nat} {st : St} {a : Act} {w : World} (S : SRel ρ nt st a w) : Later ρ w nt st a w := ⟨ρ, .refl _ _, .refl _ _, S⟩
theorem Later.trans {ρ ρ₁ : Rho} {nt : Nat} {st : St} {w w₁ : World} {a' : Act} {w' : World} (g : Grow ρ ρ₁ w) (f : Fr ρ w w₁) (k : Later ρ₁ w₁ nt st a' w') : Later ρ w nt st a' w' := by
  obtain ⟨ρ', g', f', S⟩ := k
  exact ⟨ρ', g.trans f.size g', f.trans g f', S⟩

theorem oneOp_sound {P : Program} {call : CallFn} (hcall : CallOk P call) {ρ : Rho} {nt : Nat} {ops : Array Oper} {o : Oper} {st st' : St} {a : Act} {w : World} (S : SRel ρ nt st a w)
    (e : oneOp P call nt ops o st = some st') (K : Act → World → Prop) (hK : ∀ a' w', Later ρ w nt st' a' w' → K a' w') (Q : Exit → Act → World → Prop) :
    (if Region.wanted o (yielded ops a.tmps) then o.wp P a w K Q ∨ (o.asks P a w ∧ LetsOut Q) else K (a.put o.dst undef) w) := by
  unfold oneOp at e
  rw [aYield_eq S.t] at e
  cases hw : Region.wanted o (yielded ops a.tmps) with
  | false =>
    rw [hw] at e
    simp only [Option.some.injEq] at e
    subst e
    simp only [Bool.false_eq_true, if_false]
    exact hK _ _ ⟨ρ, .refl _ _, .refl _ _, S.h, S.t.put S.n S.s (.tuple .nil) o.dst, by rw [put_defers]; exact S.d, by rw [put_size]; exact S.n, S.s⟩
  | true =>
    rw [hw] at e
    simp only at e
    split at e
    · rename_i v h' hs
      cases e
      simp only [if_true]
      refine .inl (stepOp_sound hcall S.h S.t hs ?_)
      intro v' ρ' w' r H' g f
      exact hK _ _ ⟨ρ', g, f, H', (S.t.ext g.ext).put S.n S.s r o.dst, by rw [put_defers]; exact S.d, by rw [put_size]; exact S.n, S.s⟩
    · cases e

theorem execOps_sound {P : Program} {call : CallFn} (hcall : CallOk P call) {nt : Nat} {ops : Array Oper} {Q : Exit → Act → World → Prop} : ∀ (k i : Nat) (ρ : Rho) (st st' : St) (a : Act) (w : World), i + k = ops.size → SRel ρ nt st a w →
    execOps P call nt ops (ops.toList.drop i) st = some st' → (∀ a' w', Later ρ w nt st' a' w' → Q .normal a' w') → wpOps P ops Q (List.range' i k) a w := by
  intro k
  induction k with
  | zero =>
    intro i ρ st st' a w hi S e hQ
    rw [List.drop_of_length_le (by simp; omega)] at e
    simp only [execOps, Option.some.injEq] at e
    subst e
    exact hQ a w (.refl S)
  | succ k ih =>
    intro i ρ st st' a w hi S e hQ
    have hlt : i < ops.size := by omega
    rw [List.drop_eq_getElem_cons (by simpa using hlt)] at e
    simp only [execOps] at e
    split at e
    case h_2 => cases e
    rename_i st₁ h1
    rw [List.range'_succ, wpOps_cons]
    unfold wpOp
    have ho : ops[i]? = some ops.toList[i] := by simp [hlt]
    rw [ho]
    refine oneOp_sound hcall S h1 _ ?_ Q
    intro a' w' hl
    obtain ⟨ρ', g, f, S'⟩ := hl
    exact ih (i + 1) ρ' st₁ st' a' w' (by omega) S' e fun a2 w2 h2 => hQ a2 w2 (Later.trans g f h2)

/-- What is asked of the regions that leave their order open. -/
def DrOk (P : Program) (dr : CallFn → Nat → Array Oper → St → Option St) : Prop :=
  ∀ call, CallOk P call → ∀ id nt ops st st', dr call nt ops st = some st' → ∀ ρ a w, SRel ρ nt st a w → (Code.region id ops true).wp P (PostX ρ w nt .normal st') a w

/-- A result, as the machine reads it. -/
def resF (tmps : Array Value) : ResultVar → Sem Value
  | .tmp t => pure (tmps.getD t undef)
  | .cell b t => do loadVar t (← asAddr (tmps.getD b undef))
theorem results_eq (fn : Func) (tmps : Array Value) : results fn tmps = (do
    let vs ← fn.results.mapM (resF tmps)
    pure (if h : vs.size = 1 then vs[0] else .tuple vs)) := rfl
theorem aResult_sound {P : Program} {ρ : Rho} {nt : Nat} {st : St} {a : Act} {w : World} (S : SRel ρ nt st a w) {r : ResultVar} {v : Value} (e : aResult P st r = some v) :
    ∃ v', (resF a.tmps r).run P w = .ok v' w ∧ VRel ρ v v' := by
  cases r with
  | tmp t => simp only [aResult, Option.some.injEq] at e; subst e; exact ⟨_, rfl, S.t t⟩
  | cell b t =>
    simp only [aResult] at e
    obtain ⟨v', q1, q2⟩ := aLoad_sound (P := P) S.h e (S.t b)
    refine ⟨v', ?_, q2⟩
    have hp : ∃ x, a.tmps.getD b undef = .pointer (some x) := by
      unfold aLoad at e
      split at e
      case h_2 => cases e
      rename_i b' i hx
      have r := S.t b
      rw [hx] at r
      exact r.ptrSome
    obtain ⟨x, hx⟩ := hp
    rw [hx] at q1
    simp only [resF, hx]
    simpa [Instr.loadAt, Instr.sureAddr, asAddr] using q1
theorem aResults_sound {P : Program} {ρ : Rho} {nt : Nat} {st : St} {a : Act} {w : World} (S : SRel ρ nt st a w) : ∀ (rs : List ResultVar) (vs : List Value), aResults P st rs = some vs →
    ∃ vs', (rs.mapM (m := Sem) (resF a.tmps)).run P w = .ok vs' w ∧ F2 (VRel ρ) vs vs' := by
  intro rs
  induction rs with
  | nil => intro vs e; simp only [aResults, Option.some.injEq] at e; subst e; exact ⟨[], rfl, .nil⟩
  | cons r rs ih =>
    intro vs e
    simp only [aResults] at e
    split at e
    · rename_i v us h1 h2
      cases e
      obtain ⟨v', q1, q2⟩ := aResult_sound S h1
      obtain ⟨us', p1, p2⟩ := ih us h2
      refine ⟨v' :: us', ?_, .cons q2 p2⟩
      simp only [List.mapM_cons, Sem.run_bind]
      rw [q1]
      simp only [Result.andThen_ok, p1, Sem.run_pure]
    · cases e
theorem isOneAgg_sound {ρ : Rho} {l m : List Value} (h : F2 (VRel ρ) l m) : l.all isOneAgg = true → F2 (VRel1 ρ) l m := by
  induction h with
  | nil => intro _; exact .nil
  | cons h t ih =>
    intro hp
    simp only [List.all_cons, Bool.and_eq_true] at hp
    refine .cons ?_ (ih hp.2)
    cases h with
    | one k => exact k
    | tuple k => exact absurd hp.1 (by simp [isOneAgg])
theorem aResultV_sound {P : Program} {fn : Func} {ρ : Rho} {nt : Nat} {st : St} {a : Act} {w : World} (S : SRel ρ nt st a w) {v : Value} (e : aResultV P fn st = some v) :
    ∃ v', (results fn a.tmps).run P w = .ok v' w ∧ VRel ρ v v' := by
  unfold aResultV at e
  split at e
  · rename_i u hu
    cases e
    obtain ⟨vs', q1, q2⟩ := aResults_sound S _ _ hu
    cases q2 with
    | cons r1 r2 =>
      cases r2
      rename_i v'
      refine ⟨v', ?_, r1⟩
      rw [results_eq, Array.mapM_eq_mapM_toList]
      simp only [Sem.run_bind, Sem.run_map]
      rw [q1]
      simp
  · rename_i vs hvs hne
    split at e
    case h_2 => cases e
    rename_i hp
    cases e
    obtain ⟨vs', q1, q2⟩ := aResults_sound S _ _ hne
    have hlen := q2.length
    refine ⟨.tuple vs'.toArray, ?_, .tuple (isOneAgg_sound q2 hp)⟩
    rw [results_eq, Array.mapM_eq_mapM_toList]
    simp only [Sem.run_bind, Sem.run_map]
    rw [q1]
    simp only [Result.andThen_ok, Sem.run_pure]
    rw [dif_neg]
    simp only [List.size_toArray]
    intro h1
    match vs, hlen with
    | [x], _ => exact hvs x rfl
    | [], hl => simp at hl; omega
    | _ :: _ :: _, hl => simp at hl; omega
  · cases e

def ExecOk (P : Program) (ex : ExecFn) : Prop :=
  ∀ nt c st x st', ex nt c st = some (x, st') → ∀ ρ a w, SRel ρ nt st a w → c.wp P (PostX ρ w nt x st') a w

theorem callWith_sound {P : Program} {ex : ExecFn} (hex : ExecOk P ex) : CallOk P (callWith P ex) := by
  intro f args h v h' e ρ w args' H hr
  unfold callWith at e
  split at e
  case h_2 => cases e
  rename_i fn hfn
  split at e
  case h_2 => cases e
  rename_i c hb
  split at e
  case h_2 => cases e
  rename_i hn
  have hn : max fn.ntmps args.length < 1000000 := by simpa using hn
  have hlen := hr.length
  simp only [Array.length_toList] at hlen
  have S0 : SRel ρ (max fn.ntmps args.length) ⟨trOf 0 .leaf args, h⟩ { tmps := args' ++ Array.replicate (fn.ntmps - args'.size) undef, defers := [] } w := by
    refine ⟨H, ?_, rfl, by simp; omega, hn⟩
    intro t
    show VRel ρ (((trOf 0 .leaf args).get t).getD undef) ((args' ++ Array.replicate (fn.ntmps - args'.size) undef).getD t undef)
    rw [trOf_get _ _ _ _ (by omega), Array.getD_eq_getD_getElem?]
    by_cases ht : t < args.length
    · rw [if_pos (by omega), Array.getElem?_append_left (by omega)]
      obtain ⟨b, hb1, hb2⟩ := hr.get t args[t] (by simp [ht])
      simp only [Nat.sub_zero]
      rw [List.getElem?_eq_getElem ht]
      have : args'[t]? = some b := by simpa using hb1
      rw [this]; exact hb2
    · rw [if_neg (by omega), Array.getElem?_append_right (by omega)]
      have hu : (((Array.replicate (fn.ntmps - args'.size) undef)[t - args'.size]?).getD undef) = undef := by
        rw [Array.getElem?_replicate]; split <;> rfl
      rw [hu]
      exact .tuple .nil
  have fin : ∀ x st, ex (max fn.ntmps args.length) c ⟨trOf 0 .leaf args, h⟩ = some (x, st) → (x = .normal ∨ x = .ret) → aResultV P fn st = some v → st.h = h' →
      Calls P f args' w fun e w' => ∃ v' ρ', e = .returned v' ∧ VRel ρ' v v' ∧ HRel ρ' h' w' ∧ Grow ρ ρ' w ∧ Fr ρ w w' := by
    intro x st he hx hv hh
    subst hh
    refine calls_of_wp hfn hb (wp_mono (hex _ _ _ _ _ he ρ _ w S0) ?_)
    rintro e a' w' ⟨rfl, ρ', g, f', S⟩
    obtain ⟨v', q1, q2⟩ := aResultV_sound S hv
    rcases hx with rfl | rfl
    · exact ⟨S.d, v', q1, v', ρ', rfl, q2, S.h, g, f'⟩
    · exact ⟨S.d, v', q1, v', ρ', rfl, q2, S.h, g, f'⟩
  split at e
  · rename_i st he
    split at e
    · rename_i u hu; cases e; exact fin _ st he (.inl rfl) hu rfl
    · cases e
  · rename_i st he
    split at e
    · rename_i u hu; cases e; exact fin _ st he (.inr rfl) hu rfl
    · cases e
  · cases e

theorem PostX.trans {ρ ρ₁ : Rho} {w w₁ : World} {nt : Nat} {x : X} {st : St} (g : Grow ρ ρ₁ w) (f : Fr ρ w w₁) {e : Exit} {a' : Act} {w' : World} (h : PostX ρ₁ w₁ nt x st e a' w') : PostX ρ w nt x st e a' w' := ⟨h.1, h.2.trans g f⟩

theorem exec_sound {P : Program} {dr : CallFn → Nat → Array Oper → St → Option St} (hdr : DrOk P dr) : ∀ k, ExecOk P (exec P dr k) := by
  intro k
  induction k using Nat.strongRecOn with
  | _ k ih =>
  intro nt c st x st' e ρ a w S
  cases k with
  | zero => cases e
  | succ k =>
    have hex : ExecOk P (exec P dr k) := ih k (Nat.lt_succ_self k)
    have hcall := callWith_sound hex
    change execStep P dr (exec P dr k) nt c st = some (x, st') at e
    unfold execStep at e
    split at e
    · cases e; exact wp_skip ⟨rfl, .refl S⟩
    · cases e; exact wp_label ⟨rfl, .refl S⟩
    · cases e; exact wp_exit ⟨rfl, .refl S⟩
    · cases e; exact wp_ret ⟨rfl, .refl S⟩
    · rename_i id ops
      split at e
      · rename_i st₁ h1
        cases e
        refine wp_region ?_
        rw [List.range_eq_range']
        exact execOps_sound hcall ops.size 0 ρ st st' a w (by omega) S h1 fun a' w' hl => ⟨rfl, hl⟩
      · cases e
    · rename_i id ops
      split at e
      · rename_i st₁ h1
        cases e
        exact hdr _ hcall id nt ops st st' h1 ρ a w S
      · cases e
    · rename_i c1 c2
      refine wp_seq ?_
      split at e
      · rename_i st₁ h1
        refine wp_mono (hex _ _ _ _ _ h1 ρ a w S) ?_
        rintro e1 a1 w1 ⟨rfl, ρ1, g, f, S1⟩
        exact wp_mono (hex _ _ _ _ _ e ρ1 a1 w1 S1) fun _ _ _ hq => hq.trans g f
      · rename_i hne
        refine wp_mono (hex _ _ _ _ _ e ρ a w S) ?_
        rintro e1 a1 w1 ⟨rfl, hl⟩
        cases x with
        | normal => exact absurd e (hne st')
        | exit id => exact ⟨rfl, hl⟩
        | ret => exact ⟨rfl, hl⟩
    · rename_i co c1 c2
      split at e
      · rename_i hc
        have hc' := VRel.eq_of_plain (aev_sound S.h S.t hc) rfl
        exact wp_cond_true hc' (hex _ _ _ _ _ e ρ a w S)
      · rename_i hc
        have hc' := VRel.eq_of_plain (aev_sound S.h S.t hc) rfl
        exact wp_cond_false hc' (hex _ _ _ _ _ e ρ a w S)
      · cases e
    · rename_i id c1
      refine wp_block ?_
      split at e
      · rename_i j st₁ h1
        refine wp_mono (hex _ _ _ _ _ h1 ρ a w S) ?_
        rintro e1 a1 w1 ⟨rfl, hl⟩
        split at e
        · rename_i hj
          cases e
          have hj : j = id := Nat.eq_of_beq_eq_true hj
          show (if j = id then _ else _)
          rw [if_pos hj]
          exact ⟨rfl, hl⟩
        · rename_i hj
          cases e
          have hj : ¬ j = id := fun x => by subst x; simp at hj
          show (if j = id then _ else _)
          rw [if_neg hj]
          exact ⟨rfl, hl⟩
      · rename_i hne
        refine wp_mono (hex _ _ _ _ _ e ρ a w S) ?_
        rintro e1 a1 w1 ⟨rfl, hl⟩
        cases x with
        | normal => exact ⟨rfl, hl⟩
        | exit id => exact absurd e (hne id st')
        | ret => exact ⟨rfl, hl⟩
    · rename_i c1
      refine wp_loop_ghost (fun n a1 w1 => n ≤ k ∧ ∃ st1 ρ1, execStep P dr (exec P dr n) nt (.loop c1) st1 = some (x, st') ∧ Grow ρ ρ1 w ∧ Fr ρ w w1 ∧ SRel ρ1 nt st1 a1 w1) k ⟨Nat.le_refl k, st, ρ, e, .refl _ _, .refl _ _, S⟩ ?_
      rintro n a1 w1 ⟨hnk, st1, ρ1, e1, g1, f1, S1⟩
      have hexn : ExecOk P (exec P dr n) := ih n (by omega)
      simp only [execStep] at e1
      split at e1
      · rename_i st2 h2
        refine wp_mono (hexn _ _ _ _ _ h2 ρ1 a1 w1 S1) ?_
        rintro e2 a2 w2 ⟨rfl, ρ2, g2, f2, S2⟩
        cases n with
        | zero => cases e1
        | succ n =>
          exact ⟨n, Nat.lt_succ_self n, by omega, st2, ρ2, e1, g1.trans f1.size g2, f1.trans g1 f2, S2⟩
      · rename_i hne
        refine wp_mono (hexn _ _ _ _ _ e1 ρ1 a1 w1 S1) ?_
        rintro e2 a2 w2 ⟨rfl, hl⟩
        cases x with
        | normal => exact absurd e1 (hne st')
        | exit id => exact ⟨rfl, hl.trans g1 f1⟩
        | ret => exact ⟨rfl, hl.trans g1 f1⟩
    · cases e

end Go.Vai

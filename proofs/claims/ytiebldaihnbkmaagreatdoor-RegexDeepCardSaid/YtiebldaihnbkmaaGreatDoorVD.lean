/-
  What is proved here: the value operations of a plain interpreter of Go code (moves, arithmetic, field and index addresses, slice expressions, building structs) are matched by the machine's (part D). No conditions.
-/
import Derived.Test.YtiebldaihnbkmaaGreatDoorVC
set_option linter.unusedVariables false
set_option linter.unusedSimpArgs false
namespace Go.Vai
noncomputable section
def prun {α : Type} (P : Program) : Sem α → Option α
 | .pure a => some a
 | .program k => prun P (k P)
 | .mark _ k => prun P k
 | _ => none
theorem prun_run {α : Type} {P : Program} {a : α} : ∀ (s : Sem α), prun P s = some a → ∀ w, s.run P w = .ok a w := by
 intro s
 induction s with
 | pure b => intro h w; simp only [prun, Option.some.injEq] at h; subst h; rfl
 | program k ih => intro h w; exact ih P h w
 | mark m k ih => intro h w; exact ih h w
 | _ => intro h; simp [prun] at h
def SP (P : Program) (ρ : Rho) (s : Sem Value) (v : Value) : Prop := ∃ v', (∀ w, s.run P w = .ok v' w) ∧ VRel ρ v v'
theorem VRel.of_cellsPlain {ρ : Rho} {v : Value} (h : cellsPlain v = true) : VRel ρ v v := by
 cases v with
 | agg cs => exact .one (.agg (F2.refl _ fun a ha => .plain (List.all_eq_true.1 h a ha)))
 | _ => exact .plain h
def apure (P : Program) (s : Sem Value) : Option Value :=
 match prun P s with
 | some v => match cellsPlain v with
  | true => some v
  | false => none
 | none => none
theorem apure_sound {P : Program} {ρ : Rho} {s : Sem Value} {v : Value} (h : apure P s = some v) : SP P ρ s v := by
 unfold apure at h
 split at h
 ·
  rename_i u hu
  split at h
  ·
   rename_i hp
   cases h
   exact ⟨v, prun_run s hu, .of_cellsPlain hp⟩
  · cases h
 · cases h
theorem run_underlying_some {P : Program} {t : TypeId} {d : TypeDesc} (h : P.underlying t = some d) (w : World) : (underlying t).run P w = .ok d w := by
 simp only [underlying, Sem.run_bind, run_program, Result.andThen_ok, h]; rfl
theorem run_typeInfo_some {P : Program} {t : TypeId} {i : TypeInfo} (h : P.info? t = some i) (w : World) : (typeInfo t).run P w = .ok i w := by
 simp only [typeInfo, Sem.run_bind, run_program, Result.andThen_ok, h]; rfl
theorem run_sizeOf_some {P : Program} {t : TypeId} {i : TypeInfo} (h : P.info? t = some i) (w : World) : (sizeOf t).run P w = .ok i.size w := by
 simp only [sizeOf, Sem.run_bind, run_typeInfo_some h, Result.andThen_ok]; rfl
def sz (P : Program) (t : TypeId) : Option Nat := match P.info? t with
 | some i => some i.size
 | none => none
theorem run_sz {P : Program} {t : TypeId} {n : Nat} (h : sz P t = some n) (w : World) : (sizeOf t).run P w = .ok n w := by
 unfold sz at h
 split at h
 · rename_i i hi; cases h; exact run_sizeOf_some hi w
 · cases h
def aFieldAddr (P : Program) (s : TypeId) (x : Value) (f : Nat) : Option Value :=
 match P.underlying s with
 | some (.struct fields) => match fields[f]? with
  | some fd => match x with
   | .pointer (some ⟨b, i, none⟩) => match sz P fd.type with
    | some (_ + 1) => some (.pointer (some ⟨b, i + fd.offset, none⟩))
    | _ => none
   | _ => none
  | none => none
 | _ => none
theorem VRel.leaf {ρ : Rho} {v v' : Value} (r : VRel ρ v v') (h1 : ∀ cs, v ≠ .agg cs) (h2 : ∀ cs, v ≠ .tuple cs) : LRel ρ v v' := by
 cases r with
 | one k => cases k with
  | one k => exact k
  | agg k => exact absurd rfl (h1 _)
 | tuple k => exact absurd rfl (h2 _)
theorem VRel.ptr_inv {ρ : Rho} {b i : Nat} {v' : Value} (r : VRel ρ (.pointer (some ⟨b, i, none⟩)) v') : ∃ I, ρ b = some I ∧ v' = .pointer (some ⟨I.g, I.o + i, none⟩) := by
 have := r.leaf (by simp) (by simp)
 cases this with
 | plain h => simp [leafPlain] at h
 | ptr h => exact ⟨_, h, rfl⟩
theorem VRel.slice_inv {ρ : Rho} {b i n c : Nat} {v' : Value} (r : VRel ρ (.slice (some ⟨b, i, none⟩) n c) v') :
  (∃ I c', ρ b = some I ∧ v' = .slice (some ⟨I.g, I.o + i, none⟩) n c' ∧ n ≤ c ∧ c ≤ c' ∧ I.o + i + c' * I.e ≤ I.m) ∨ (n = 0 ∧ c = 0 ∧ ∃ a', v' = .slice (some a') 0 0) := by
 have := r.leaf (by simp) (by simp)
 cases this with
 | plain h => simp [leafPlain] at h
 | slice h hn hc hm => exact .inl ⟨_, _, h, rfl, hn, hc, hm⟩
 | sliceE => exact .inr ⟨rfl, rfl, _, rfl⟩
theorem VRel.ptr {ρ : Rho} {b i : Nat} {I : Img} (h : ρ b = some I) : VRel ρ (.pointer (some ⟨b, i, none⟩)) (.pointer (some ⟨I.g, I.o + i, none⟩)) := .one (.one (.ptr h))
theorem aFieldAddr_sound {P : Program} {ρ : Rho} {s : TypeId} {x x' v : Value} {f : Nat} (h : aFieldAddr P s x f = some v) (r : VRel ρ x x') : SP P ρ (Instr.fieldAt s x' f) v := by
 unfold aFieldAddr at h
 split at h
 case h_2 => cases h
 rename_i fields hu
 split at h
 case h_2 => cases h
 rename_i fd hf
 split at h
 case h_2 => cases h
 rename_i b i
 split at h
 case h_2 => cases h
 rename_i n hz
 cases h
 obtain ⟨I, hb, rfl⟩ := r.ptr_inv
 refine ⟨.pointer (some ⟨I.g, I.o + i + fd.offset, none⟩), fun w => ?_, ?_⟩
 ·
  simp only [Instr.fieldAt, Sem.run_bind, run_underlying_some hu, Result.andThen_ok, hf, Instr.sureAddr, Sem.run_pure, fieldPlace, run_sz hz]
  simp [addr_add]
 · rw [Nat.add_assoc]; exact .ptr hb
def aIndexAddr (P : Program) (t : TypeId) (x ix : Value) : Option Value :=
 match ix with
 | .int _ j => match x with
  | .slice (some ⟨b, i, none⟩) n _ => match P.underlying t with
   | some (.slice elem) => match sz P elem with
    | some e => match decide (0 ≤ j) && decide (j < n) with
     | true => some (.pointer (some ⟨b, i + j.toNat * e, none⟩))
     | false => none
    | none => none
   | _ => none
  | .pointer (some ⟨b, i, none⟩) => match P.underlying t with
   | some (.array n elem) => match sz P elem with
    | some e => match decide (0 ≤ j) && decide (j < n) with
     | true => some (.pointer (some ⟨b, i + j.toNat * e, none⟩))
     | false => none
    | none => none
   | _ => none
  | _ => none
 | _ => none
theorem aIndexAddr_sound {P : Program} {ρ : Rho} {t : TypeId} {x x' ix ix' v : Value} (h : aIndexAddr P t x ix = some v) (r : VRel ρ x x') (ri : VRel ρ ix ix') : SP P ρ (Instr.indexAt t x' ix') v := by
 unfold aIndexAddr at h
 split at h
 case h_2 => cases h
 rename_i k j
 have := ri.eq_of_plain rfl
 subst this
 split at h
 ·
  rename_i b i n c
  split at h
  case h_2 => cases h
  rename_i elem hu
  split at h
  case h_2 => cases h
  rename_i e he
  split at h
  case h_2 => cases h
  rename_i hj
  simp only [Bool.and_eq_true, decide_eq_true_eq] at hj
  cases h
  rcases r.slice_inv with ⟨I, c', hb, rfl, hn, hc, hm⟩ | ⟨rfl, _, _⟩
  ·
   refine ⟨.pointer (some ⟨I.g, I.o + i + j.toNat * e, none⟩), fun w => ?_, ?_⟩
   ·
    simp only [Instr.indexAt, Sem.run_bind, asIntOf, Sem.run_pure, Result.andThen_ok, run_underlying_some hu]
    simp [hj.1, hj.2, run_sz he, addr_add]
   · rw [Nat.add_assoc]; exact .ptr hb
  · omega
 ·
  rename_i b i
  split at h
  case h_2 => cases h
  rename_i n elem hu
  split at h
  case h_2 => cases h
  rename_i e he
  split at h
  case h_2 => cases h
  rename_i hj
  simp only [Bool.and_eq_true, decide_eq_true_eq] at hj
  cases h
  obtain ⟨I, hb, rfl⟩ := r.ptr_inv
  refine ⟨.pointer (some ⟨I.g, I.o + i + j.toNat * e, none⟩), fun w => ?_, ?_⟩
  ·
   simp only [Instr.indexAt, Sem.run_bind, asIntOf, Sem.run_pure, Result.andThen_ok, run_underlying_some hu]
   simp [Instr.sureAddr, hj.1, hj.2, run_sz he, addr_add]
  · rw [Nat.add_assoc]; exact .ptr hb
 · cases h
def aBound : Option Value → Nat → Option Nat
 | none, d => some d
 | some (.int _ j), _ => match decide (0 ≤ j) with
  | true => some j.toNat
  | false => none
 | _, _ => none
def markE : Value := .slice (some ⟨0, 0, some 0⟩) 0 0
def aSlice3 (P : Program) (h : Heap) (t : TypeId) (x : Value) (lo : Option Value) (hv m : Value) : Option Value :=
 match P.underlying t with
 | some (.slice elem) => match sz P elem, aBound lo 0, aBound (some hv) 0, aBound (some m) 0 with
  | some e, some l, some u, some k => match Nat.ble l u && Nat.ble u k with
   | true => match x with
    | .slice none 0 0 => match Nat.beq k 0 with
     | true => some x
     | false => none
    | .slice (some ⟨_, _, some _⟩) 0 0 => match Nat.beq k 0 with
     | true => some markE
     | false => none
    | .slice (some ⟨b, i, none⟩) _ c => match h.blks.get b with
     | some B => match Nat.ble k c && Nat.beq B.esz e with
      | true => match Nat.beq k l with
       | true => some markE
       | false => some (.slice (some ⟨b, i + l * e, none⟩) (u - l) (k - l))
      | false => none
     | none => none
    | _ => none
   | false => none
  | _, _, _, _ => none
 | _ => none
def aSlice (P : Program) (h : Heap) (t : TypeId) (x : Value) (lo hi mx : Option Value) : Option Value :=
 match mx with
 | some m => match hi with
  | some hv => aSlice3 P h t x lo hv m
  | none => none
 | none => match x with
  | .slice (some ⟨_, _, some _⟩) 0 0 => match P.underlying t with
   | some (.slice elem) => match sz P elem, aBound lo 0, aBound hi 0 with
    | some _, some 0, some 0 => some markE
    | _, _, _ => none
   | _ => none
  | .string _ => match lo, hi with
   | none, none => apure P (Instr.sliceAt t x none none none)
   | some (.int k j), none => apure P (Instr.sliceAt t x (some (.int k j)) none none)
   | none, some (.int k j) => apure P (Instr.sliceAt t x none (some (.int k j)) none)
   | some (.int k j), some (.int k' j') => apure P (Instr.sliceAt t x (some (.int k j)) (some (.int k' j')) none)
   | _, _ => none
  | .slice none 0 0 => match P.underlying t with
   | some (.slice elem) => match sz P elem, aBound lo 0, aBound hi 0 with
    | some _, some 0, some 0 => some x
    | _, _, _ => none
   | _ => none
  | .slice (some ⟨b, i, none⟩) n c => match P.underlying t with
   | some (.slice elem) => match sz P elem, aBound lo 0, aBound hi n, h.blks.get b with
    | some e, some l, some u, some B => match Nat.ble l u && Nat.ble u c && Nat.beq B.esz e with
     | true => some (.slice (some ⟨b, i + l * e, none⟩) (u - l) (c - l))
     | false => none
    | _, _, _, _ => none
   | _ => none
  | _ => none
theorem aBound_none {d n : Nat} (h : aBound none d = some n) : n = d := by simp [aBound] at h; exact h.symm
theorem aBound_inv {o : Option Value} {d n : Nat} (h : aBound o d = some n) : (o = none ∧ n = d) ∨ ∃ k j, o = some (.int k j) ∧ 0 ≤ j ∧ n = j.toNat := by
 cases o with
 | none => exact .inl ⟨rfl, aBound_none h⟩
 | some v =>
  cases v <;> simp only [aBound] at h <;> try cases h
  rename_i k j
  split at h
  · rename_i hj; cases h; exact .inr ⟨k, j, rfl, by simpa using hj, rfl⟩
  · cases h
def ORel (ρ : Rho) (o o' : Option Value) : Prop := match o, o' with
 | none, none => True
 | some v, some v' => VRel ρ v v'
 | _, _ => False
theorem ORel.none_inv {ρ : Rho} {o' : Option Value} (r : ORel ρ none o') : o' = none := by
 cases o' with
 | none => rfl
 | some v => exact r.elim
theorem ORel.int_inv {ρ : Rho} {k : IntKind} {j : Int} {o' : Option Value} (r : ORel ρ (some (.int k j)) o') : o' = some (.int k j) := by
 cases o' with
 | none => exact r.elim
 | some v => have := VRel.eq_of_plain r rfl; rw [this]
theorem run_sliceBound {P : Program} {w : World} {k : IntKind} {j : Int} {y : Nat} {code : BoundsCode} (h0 : 0 ≤ j) (h1 : j ≤ y) : (Instr.sliceBound (.int k j) y code).run P w = .ok j.toNat w := by
 simp [Instr.sliceBound, asIntOf, h0, h1]
theorem run_sliceBounds {P : Program} {w : World} {ρ : Rho} {sl : Bool} {n c l u : Nat} {lo hi lo' hi' : Option Value} (hl : aBound lo 0 = some l) (hu : aBound hi n = some u) (rl : ORel ρ lo lo') (rh : ORel ρ hi hi') (h1 : l ≤ u) (h2 : u ≤ c) :
  (Instr.sliceBounds sl n c lo' hi' none).run P w = .ok (l, u, c) w := by
 rcases aBound_inv hl with ⟨rfl, rfl⟩ | ⟨k, j, rfl, hj, rfl⟩
 ·
  have := rl.none_inv; subst this
  rcases aBound_inv hu with ⟨rfl, rfl⟩ | ⟨k', j', rfl, hj', rfl⟩
  ·
   have := rh.none_inv; subst this
   simp [Instr.sliceBounds]
  ·
   have := rh.int_inv; subst this
   simp only [Instr.sliceBounds, Sem.run_bind, Sem.run_pure, Result.andThen_ok]
   rw [run_sliceBound hj' (by omega)]
   simp
 ·
  have := rl.int_inv; subst this
  rcases aBound_inv hu with ⟨rfl, rfl⟩ | ⟨k', j', rfl, hj', rfl⟩
  ·
   have := rh.none_inv; subst this
   simp only [Instr.sliceBounds, Sem.run_bind, Sem.run_pure, Result.andThen_ok]
   rw [run_sliceBound hj (by omega)]
   simp
  ·
   have := rh.int_inv; subst this
   simp only [Instr.sliceBounds, Sem.run_bind, Sem.run_pure, Result.andThen_ok]
   rw [run_sliceBound hj' (by omega)]
   simp only [Result.andThen_ok]
   rw [run_sliceBound hj (by omega)]
   simp
theorem run_sliceBounds3 {P : Program} {w : World} {ρ : Rho} {sl : Bool} {n c l u k : Nat} {lo lo' : Option Value} {hv hv' m m' : Value} (hl : aBound lo 0 = some l) (hu : aBound (some hv) 0 = some u) (hm : aBound (some m) 0 = some k)
  (rl : ORel ρ lo lo') (rh : VRel ρ hv hv') (rm : VRel ρ m m') (h1 : l ≤ u) (h2 : u ≤ k) (h3 : k ≤ c) :
  (Instr.sliceBounds sl n c lo' (some hv') (some m')).run P w = .ok (l, u, k) w := by
 rcases aBound_inv hm with ⟨h, _⟩ | ⟨km, jm, hme, hjm, rfl⟩
 · cases h
 cases hme
 have := rm.eq_of_plain rfl; subst this
 rcases aBound_inv hu with ⟨h, _⟩ | ⟨ku, ju, hue, hju, rfl⟩
 · cases h
 cases hue
 have := rh.eq_of_plain rfl; subst this
 rcases aBound_inv hl with ⟨rfl, rfl⟩ | ⟨kl, jl, rfl, hjl, rfl⟩
 ·
  have := rl.none_inv; subst this
  simp only [Instr.sliceBounds, Sem.run_bind]
  rw [run_sliceBound hjm (by omega)]
  simp only [Result.andThen_ok, Sem.run_bind]
  rw [run_sliceBound hju (by omega)]
  simp
 ·
  have := rl.int_inv; subst this
  simp only [Instr.sliceBounds, Sem.run_bind]
  rw [run_sliceBound hjm (by omega)]
  simp only [Result.andThen_ok, Sem.run_bind]
  rw [run_sliceBound hju (by omega)]
  simp only [Result.andThen_ok, Sem.run_bind]
  rw [run_sliceBound hjl (by omega)]
  simp
theorem VRel.mark_inv {ρ : Rho} {b i k n c : Nat} {v' : Value} (r : VRel ρ (.slice (some ⟨b, i, some k⟩) n c) v') : n = 0 ∧ c = 0 ∧ ∃ a', v' = .slice (some a') 0 0 := by
 have := r.leaf (by simp) (by simp)
 cases this with
 | plain h => simp [leafPlain] at h
 | sliceE => exact ⟨rfl, rfl, _, rfl⟩
theorem aSlice3_sound {P : Program} {ρ : Rho} {hp : Heap} {w0 : World} (H : HRel ρ hp w0) {t : TypeId} {x x' v hv m hv' m' : Value} {lo lo' : Option Value} (h : aSlice3 P hp t x lo hv m = some v)
  (r : VRel ρ x x') (rl : ORel ρ lo lo') (rh : VRel ρ hv hv') (rm : VRel ρ m m') : SP P ρ (Instr.sliceAt t x' lo' (some hv') (some m')) v := by
 unfold aSlice3 at h
 split at h
 case h_2 => cases h
 rename_i elem hu
 split at h
 case h_2 => cases h
 rename_i e l u k he hl hh hm
 split at h
 case h_2 => cases h
 rename_i hck
 simp only [Bool.and_eq_true, Nat.ble_eq] at hck
 split at h
 ·
  split at h
  case h_2 => cases h
  rename_i hk
  have hk : k = 0 := Nat.eq_of_beq_eq_true hk
  subst hk
  cases h
  have := r.eq_of_plain rfl; subst this
  refine ⟨.slice none 0 0, fun w => ?_, .plain rfl⟩
  simp only [Instr.sliceAt, Sem.run_bind, run_underlying_some hu, Result.andThen_ok, Instr.slice]
  rw [run_sliceBounds3 hl hh hm rl rh rm hck.1 hck.2 (Nat.le_refl _)]
  have h1 : u = 0 := by omega
  have h2 : l = 0 := by omega
  subst h1 h2
  simp [run_sz he]
 ·
  split at h
  case h_2 => cases h
  rename_i hk
  have hk : k = 0 := Nat.eq_of_beq_eq_true hk
  subst hk
  cases h
  obtain ⟨_, _, a', rfl⟩ := r.mark_inv
  refine ⟨.slice (some a') 0 0, fun w => ?_, .one (.one .sliceE)⟩
  simp only [Instr.sliceAt, Sem.run_bind, run_underlying_some hu, Result.andThen_ok, Instr.slice]
  rw [run_sliceBounds3 hl hh hm rl rh rm hck.1 hck.2 (Nat.le_refl _)]
  have h1 : u = 0 := by omega
  have h2 : l = 0 := by omega
  subst h1 h2
  simp [run_sz he]
 ·
  rename_i b i n c
  split at h
  case h_2 => cases h
  rename_i B hB
  split at h
  case h_2 => cases h
  rename_i hc
  simp only [Bool.and_eq_true, Nat.ble_eq] at hc
  have hes : B.esz = e := Nat.eq_of_beq_eq_true hc.2
  rcases r.slice_inv with ⟨I, c', hb, rfl, hn, hcc, hmm⟩ | ⟨rfl, rfl, a', rfl⟩
  ·
   obtain ⟨B', C, d1, _, _, d4, _⟩ := H.dom b I hb
   rw [hB] at d1; cases d1
   have run : ∀ w, (Instr.sliceAt t (.slice (some ⟨I.g, I.o + i, none⟩) n c') lo' (some hv') (some m')).run P w = .ok (.slice (if k = l then some ⟨I.g, I.o + i, none⟩ else some ⟨I.g, I.o + i + l * e, none⟩) (u - l) (k - l)) w := fun w => by
    simp only [Instr.sliceAt, Sem.run_bind, run_underlying_some hu, Result.andThen_ok, Instr.slice]
    rw [run_sliceBounds3 hl hh hm rl rh rm hck.1 hck.2 (by omega)]
    simp [run_sz he, addr_add]
   split at h
   ·
    rename_i hkl
    have hkl : k = l := Nat.eq_of_beq_eq_true hkl
    cases h
    refine ⟨_, run, ?_⟩
    rw [if_pos hkl]
    have e1 : u - l = 0 := by omega
    have e2 : k - l = 0 := by omega
    rw [e1, e2]
    exact .one (.one .sliceE)
   ·
    rename_i hkl
    have hkl : k ≠ l := fun x => by subst x; simp at hkl
    cases h
    refine ⟨_, run, ?_⟩
    rw [if_neg hkl, Nat.add_assoc]
    refine .one (.one (.slice hb (by omega) (Nat.le_refl _) ?_))
    rw [← d4, hes] at hmm ⊢
    have h1 : k * e = l * e + (k - l) * e := by rw [← Nat.add_mul]; congr 1; omega
    have h2 : k * e ≤ c' * e := Nat.mul_le_mul_right _ (by omega)
    omega
  ·
   have hk0 : k = 0 := by omega
   have hl0 : l = 0 := by omega
   have hu0 : u = 0 := by omega
   subst hk0 hl0 hu0
   simp only [Nat.beq_eq, if_true] at h
   have hv : v = markE := by
    revert h; simp [Nat.beq]; exact fun x => x.symm
   subst hv
   refine ⟨.slice (some a') 0 0, fun w => ?_, .one (.one .sliceE)⟩
   simp only [Instr.sliceAt, Sem.run_bind, run_underlying_some hu, Result.andThen_ok, Instr.slice]
   rw [run_sliceBounds3 hl hh hm rl rh rm (Nat.le_refl _) (Nat.le_refl _) (Nat.le_refl _)]
   simp [run_sz he]
 · cases h
theorem aSlice_sound {P : Program} {ρ : Rho} {hp : Heap} {w0 : World} (H : HRel ρ hp w0) {t : TypeId} {x x' v : Value} {lo hi mx lo' hi' mx' : Option Value} (h : aSlice P hp t x lo hi mx = some v)
  (r : VRel ρ x x') (rl : ORel ρ lo lo') (rh : ORel ρ hi hi') (rm : ORel ρ mx mx') : SP P ρ (Instr.sliceAt t x' lo' hi' mx') v := by
 unfold aSlice at h
 split at h
 ·
  rename_i m
  split at h
  case h_2 => cases h
  rename_i hv
  cases mx' with
  | none => exact rm.elim
  | some m' => cases hi' with
   | none => exact rh.elim
   | some hv' => exact aSlice3_sound H h r rl rh rm
 have := rm.none_inv; subst this
 split at h
 ·
  obtain ⟨_, _, a', rfl⟩ := r.mark_inv
  split at h
  case h_2 => cases h
  rename_i elem hu
  split at h
  case h_2 => cases h
  rename_i e he hl hh
  cases h
  refine ⟨.slice (some a') 0 0, fun w => ?_, .one (.one .sliceE)⟩
  simp only [Instr.sliceAt, Sem.run_bind, run_underlying_some hu, Result.andThen_ok, Instr.slice]
  rw [run_sliceBounds hl hh rl rh (Nat.le_refl _) (Nat.le_refl _)]
  simp [run_sz he]
 ·
  rename_i s
  have := r.eq_of_plain rfl; subst this
  split at h
  · have := rl.none_inv; subst this; have := rh.none_inv; subst this; exact apure_sound h
  · have := rl.int_inv; subst this; have := rh.none_inv; subst this; exact apure_sound h
  · have := rl.none_inv; subst this; have := rh.int_inv; subst this; exact apure_sound h
  · have := rl.int_inv; subst this; have := rh.int_inv; subst this; exact apure_sound h
  · cases h
 ·
  have := r.eq_of_plain rfl; subst this
  split at h
  case h_2 => cases h
  rename_i elem hu
  split at h
  case h_2 => cases h
  rename_i e he hl hh
  cases h
  refine ⟨.slice none 0 0, fun w => ?_, .plain rfl⟩
  simp only [Instr.sliceAt, Sem.run_bind, run_underlying_some hu, Result.andThen_ok, Instr.slice]
  rw [run_sliceBounds hl hh rl rh (Nat.le_refl _) (Nat.le_refl _)]
  simp [run_sz he]
 ·
  rename_i b i n c
  split at h
  case h_2 => cases h
  rename_i elem hu
  split at h
  case h_2 => cases h
  rename_i e l u B he hl hh hB
  split at h
  case h_2 => cases h
  rename_i hc
  simp only [Bool.and_eq_true, Nat.ble_eq] at hc
  obtain ⟨⟨hlu, huc⟩, hes⟩ := hc
  have hes : B.esz = e := Nat.eq_of_beq_eq_true hes
  cases h
  rcases r.slice_inv with ⟨I, c', hb, rfl, hn, hcc, hm⟩ | ⟨rfl, rfl, a', rfl⟩
  ·
   obtain ⟨B', C, d1, _, _, d4, _⟩ := H.dom b I hb
   rw [hB] at d1; cases d1
   refine ⟨.slice (if c' = l then some ⟨I.g, I.o + i, none⟩ else some ⟨I.g, I.o + i + l * e, none⟩) (u - l) (c' - l), fun w => ?_, ?_⟩
   ·
    simp only [Instr.sliceAt, Sem.run_bind, run_underlying_some hu, Result.andThen_ok, Instr.slice]
    rw [run_sliceBounds hl hh rl rh hlu (Nat.le_trans huc hcc)]
    simp [run_sz he, addr_add]
   ·
    by_cases hcl : c' = l
    ·
     rw [if_pos hcl]
     have e1 : u - l = 0 := by omega
     have e2 : c - l = 0 := by omega
     have e3 : c' - l = 0 := by omega
     rw [e1, e2, e3]
     exact .one (.one .sliceE)
    ·
     rw [if_neg hcl, Nat.add_assoc]
     refine .one (.one (.slice hb (by omega) (by omega) ?_))
     rw [← d4, hes] at hm ⊢
     have : c' * e = l * e + (c' - l) * e := by rw [← Nat.add_mul]; congr 1; omega
     omega
  ·
   refine ⟨.slice (some a') 0 0, fun w => ?_, ?_⟩
   ·
    simp only [Instr.sliceAt, Sem.run_bind, run_underlying_some hu, Result.andThen_ok, Instr.slice]
    have hu0 : u = 0 := by omega
    have hl0 : l = 0 := by omega
    subst hu0 hl0
    rw [run_sliceBounds hl hh rl rh (Nat.le_refl _) (Nat.le_refl _)]
    simp [run_sz he]
   ·
    have e1 : u - l = 0 := by omega
    rw [e1, Nat.zero_sub]
    exact .one (.one .sliceE)
 · cases h
end
end Go.Vai

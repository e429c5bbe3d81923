/-
  What is proved here: more value operations (parts of structs and arrays, comparisons with nil, building), and those that read, write or make memory (load, store, new variables, slices made, append), of a plain interpreter of Go code, are matched by the machine's (part E). No conditions.
-/
import Derived.Test.YtiebldaihnbkmaaGreatDoorVD
import GoSem.Dispatch
import GoSem.Machine.Frame
set_option linter.unusedVariables false
set_option linter.unusedSimpArgs false
namespace Go.Vai

/-! ### Parts -/
def isAggB (P : Program) (t : TypeId) : Option Bool := match P.underlying t with
  | some (.struct _) => some true
  | some (.array _ _) => some true
  | some _ => some false
  | none => none
theorem run_isAgg_some {P : Program} {t : TypeId} {b : Bool} (h : isAggB P t = some b) (w : World) : (isAgg t).run P w = .ok b w := by
  unfold isAggB at h
  split at h
  · rename_i fs hu; cases h; simp [isAgg, run_underlying_some hu]
  · rename_i n e hu; cases h; simp [isAgg, run_underlying_some hu]
  · rename_i d h1 h2 hu
    cases h
    simp only [isAgg, Sem.run_bind, run_underlying_some hu, Result.andThen_ok]
    cases d <;> first | rfl | exact absurd rfl (h1 _) | exact absurd rfl (h2 _ _)
  · cases h

def aPart (P : Program) (t : TypeId) (cs : Array Value) (off : Nat) : Option Value :=
  match isAggB P t with
  | some true => match sz P t with
    | some n => some (.agg (cs.extract off (off + n)))
    | none => none
  | some false => cs[off]?
  | none => none
theorem F2.extract {ρ : Rho} {cs cs' : Array Value} (h : F2 (LRel ρ) cs.toList cs'.toList) (i j : Nat) : F2 (LRel ρ) (cs.extract i j).toList (cs'.extract i j).toList := by
  rw [Array.toList_extract, Array.toList_extract]
  simp only [List.extract_eq_take_drop]
  exact (h.drop _).take _
theorem aPart_sound {P : Program} {ρ : Rho} {t : TypeId} {cs cs' : Array Value} {off : Nat} {v : Value} (h : aPart P t cs off = some v) (r : F2 (LRel ρ) cs.toList cs'.toList) : SP P ρ (part t cs' off) v := by
  unfold aPart at h
  split at h
  · rename_i ha
    split at h
    · rename_i n hn
      cases h
      exact ⟨_, fun w => by simp [part, run_isAgg_some ha, run_sz hn], .one (.agg (r.extract _ _))⟩
    · cases h
  · rename_i ha
    obtain ⟨v', h1, h2⟩ := r.get off v (by simpa using h)
    refine ⟨v', fun w => ?_, .one (.one h2)⟩
    have : cs'[off]? = some v' := by simpa using h1
    simp [part, run_isAgg_some ha, this]
  · cases h

def aField (P : Program) (t : TypeId) (x : Value) (f : Nat) : Option Value :=
  match P.underlying t with
  | some (.struct fields) => match fields[f]? with
    | some fd => match x with
      | .agg cs => aPart P fd.type cs fd.offset
      | _ => none
    | none => none
  | _ => none
theorem VRel.agg_inv {ρ : Rho} {cs : Array Value} {v' : Value} (r : VRel ρ (.agg cs) v') : ∃ cs', v' = .agg cs' ∧ F2 (LRel ρ) cs.toList cs'.toList := by
  cases r with
  | one k => cases k with
    | one k => cases k; contradiction
    | agg k => exact ⟨_, rfl, k⟩
theorem VRel.tuple_inv {ρ : Rho} {cs : Array Value} {v' : Value} (r : VRel ρ (.tuple cs) v') : ∃ cs', v' = .tuple cs' ∧ F2 (VRel1 ρ) cs.toList cs'.toList := by
  cases r with
  | one k => cases k with
    | one k => cases k; contradiction
  | tuple k => exact ⟨_, rfl, k⟩
theorem aField_sound {P : Program} {ρ : Rho} {t : TypeId} {x x' v : Value} {f : Nat} (h : aField P t x f = some v) (r : VRel ρ x x') : SP P ρ (Instr.field t x' f) v := by
  unfold aField at h
  split at h
  case h_2 => cases h
  rename_i fields hu
  split at h
  case h_2 => cases h
  rename_i fd hf
  split at h
  case h_2 => cases h
  rename_i cs
  obtain ⟨cs', rfl, hr⟩ := r.agg_inv
  obtain ⟨v', h1, h2⟩ := aPart_sound h hr
  exact ⟨v', fun w => by simp [Instr.field, run_underlying_some hu, hf, asAgg, h1], h2⟩

def aIndex (P : Program) (t : TypeId) (x ix : Value) : Option Value :=
  match ix with
  | .int k j => match x with
    | .string s => apure P (Instr.index t (.string s) (.int k j))
    | .agg cs => match P.underlying t with
      | some (.array n elem) => match sz P elem with
        | some e => match decide (0 ≤ j) && decide (j < n) with
          | true => aPart P elem cs (j.toNat * e)
          | false => none
        | none => none
      | _ => none
    | _ => none
  | _ => none
theorem aIndex_sound {P : Program} {ρ : Rho} {t : TypeId} {x x' ix ix' v : Value} (h : aIndex P t x ix = some v) (r : VRel ρ x x') (ri : VRel ρ ix ix') : SP P ρ (Instr.index t x' ix') v := by
  unfold aIndex at h
  split at h
  case h_2 => cases h
  rename_i k j
  have := ri.eq_of_plain rfl; subst this
  split at h
  · have := r.eq_of_plain rfl; subst this; exact apure_sound h
  · rename_i cs
    split at h
    case h_2 => cases h
    rename_i n elem hu
    split at h
    case h_2 => cases h
    rename_i e he
    split at h
    case h_2 => cases h
    rename_i hj
    simp only [Bool.and_eq_true, decide_eq_true_eq] at hj
    obtain ⟨cs', rfl, hr⟩ := r.agg_inv
    obtain ⟨v', h1, h2⟩ := aPart_sound h hr
    exact ⟨v', fun w => by simp [Instr.index, asIntOf, run_underlying_some hu, hj.1, hj.2, run_sz he, h1], h2⟩
  · cases h

def aExtract (x : Value) (i : Nat) : Option Value := match x with
  | .tuple vs => vs[i]?
  | _ => none
theorem aExtract_sound {P : Program} {ρ : Rho} {x x' v : Value} {i : Nat} (h : aExtract x i = some v) (r : VRel ρ x x') : SP P ρ (Instr.extract x' i) v := by
  unfold aExtract at h
  split at h
  · rename_i vs
    obtain ⟨vs', rfl, hr⟩ := r.tuple_inv
    obtain ⟨v', h1, h2⟩ := hr.get i v (by simpa using h)
    have : vs'[i]? = some v' := by simpa using h1
    exact ⟨v', fun w => by simp [Instr.extract, this], .one h2⟩
  · cases h

/-! ### Comparisons, arithmetic -/
def aNilEq (P : Program) (t : TypeId) (x y : Value) : Bool :=
  match x, y with
  | .pointer (some _), .pointer none => match P.underlying t with | some (.pointer _) => true | _ => false
  | .pointer none, .pointer (some _) => match P.underlying t with | some (.pointer _) => true | _ => false
  | .slice (some _) _ _, .slice none _ _ => match P.underlying t with | some (.slice _) => true | _ => false
  | .slice none _ _, .slice (some _) _ _ => match P.underlying t with | some (.slice _) => true | _ => false
  | .func _ _ _, .nilFunc => match P.underlying t with | some (.func _ _ _) => true | _ => false
  | _, _ => false
def aBin (P : Program) (op : BinOp) (t : TypeId) (ox oy : Operand) (x y : Value) : Option Value :=
  match cellsPlain x && cellsPlain y with
  | true => apure P (do eqGuard op t ox oy x y; binOp op t x y)
  | false => match aNilEq P t x y with
    | true => match op with
      | .eql => some (.bool false)
      | .neq => some (.bool true)
      | _ => none
    | false => none
theorem eqIn1 {P : Program} {d : Nat} {t e : TypeId} {a : Addr} (hu : P.underlying t = some (.pointer e)) (w : World) : (Op.equalIn (d + 1) t (.pointer (some a)) (.pointer none)).run P w = .ok false w := by
  simp only [Op.equalIn, Sem.run_bind, run_underlying_some hu, Result.andThen_ok]; rfl
theorem eqIn2 {P : Program} {d : Nat} {t e : TypeId} {a : Addr} (hu : P.underlying t = some (.pointer e)) (w : World) : (Op.equalIn (d + 1) t (.pointer none) (.pointer (some a))).run P w = .ok false w := by
  simp only [Op.equalIn, Sem.run_bind, run_underlying_some hu, Result.andThen_ok]; rfl
theorem eqIn3 {P : Program} {d : Nat} {t e : TypeId} {a : Addr} {n c n2 c2 : Nat} (hu : P.underlying t = some (.slice e)) (w : World) : (Op.equalIn (d + 1) t (.slice (some a) n c) (.slice none n2 c2)).run P w = .ok false w := by
  simp only [Op.equalIn, Sem.run_bind, run_underlying_some hu, Result.andThen_ok]; rfl
theorem eqIn4 {P : Program} {d : Nat} {t e : TypeId} {a : Addr} {n c n2 c2 : Nat} (hu : P.underlying t = some (.slice e)) (w : World) : (Op.equalIn (d + 1) t (.slice none n2 c2) (.slice (some a) n c)).run P w = .ok false w := by
  simp only [Op.equalIn, Sem.run_bind, run_underlying_some hu, Result.andThen_ok]; rfl
theorem eqIn5 {P : Program} {d : Nat} {t : TypeId} {ps rs : Array TypeId} {vr : Bool} {f : Fn} {a b : Array Value} (hu : P.underlying t = some (.func ps rs vr)) (w : World) : (Op.equalIn (d + 1) t (.func f a b) .nilFunc).run P w = .ok false w := by
  simp only [Op.equalIn, Sem.run_bind, run_underlying_some hu, Result.andThen_ok]; rfl
/-- Two values of which one is nil, as '==' meets them. -/
def NilPair (P : Program) (t : TypeId) (x y : Value) : Prop :=
  ∀ w, (Op.equal t x y).run P w = .ok false w ∧ (∀ op ox oy, (eqGuard op t ox oy x y).run P w = .ok () w) ∧ binOp .eql t x y = (do pure (.bool (← Op.equal t x y))) ∧ binOp .neq t x y = (do pure (.bool (!(← Op.equal t x y))))
theorem nilPair1 {P : Program} {t e : TypeId} {a : Addr} (hu : P.underlying t = some (.pointer e)) : NilPair P t (.pointer (some a)) (.pointer none) := by
  intro w; refine ⟨eqIn1 (d := 9999) hu w, fun op ox oy => ?_, rfl, rfl⟩; unfold eqGuard; split <;> rfl
theorem nilPair2 {P : Program} {t e : TypeId} {a : Addr} (hu : P.underlying t = some (.pointer e)) : NilPair P t (.pointer none) (.pointer (some a)) := by
  intro w; refine ⟨eqIn2 (d := 9999) hu w, fun op ox oy => ?_, rfl, rfl⟩; unfold eqGuard; split <;> rfl
theorem nilPair3 {P : Program} {t e : TypeId} {a : Addr} {n c n2 c2 : Nat} (hu : P.underlying t = some (.slice e)) : NilPair P t (.slice (some a) n c) (.slice none n2 c2) := by
  intro w; refine ⟨eqIn3 (d := 9999) hu w, fun op ox oy => ?_, rfl, rfl⟩; unfold eqGuard; split <;> rfl
theorem nilPair4 {P : Program} {t e : TypeId} {a : Addr} {n c n2 c2 : Nat} (hu : P.underlying t = some (.slice e)) : NilPair P t (.slice none n2 c2) (.slice (some a) n c) := by
  intro w; refine ⟨eqIn4 (d := 9999) hu w, fun op ox oy => ?_, rfl, rfl⟩; unfold eqGuard; split <;> rfl
theorem nilPair5 {P : Program} {t : TypeId} {ps rs : Array TypeId} {vr : Bool} {f : Fn} {a b : Array Value} (hu : P.underlying t = some (.func ps rs vr)) : NilPair P t (.func f a b) .nilFunc := by
  intro w; refine ⟨eqIn5 (d := 9999) hu w, fun op ox oy => ?_, rfl, rfl⟩; unfold eqGuard; split <;> rfl
theorem VRel.sliceSome {ρ : Rho} {a : Addr} {n c : Nat} {x : Value} (r : VRel ρ (.slice (some a) n c) x) : ∃ a' n' c', x = .slice (some a') n' c' := by
  cases r.leaf (by simp) (by simp) with
  | plain hp => simp [leafPlain] at hp
  | slice => exact ⟨_, _, _, rfl⟩
  | sliceE => exact ⟨_, _, _, rfl⟩
theorem VRel.sliceNone {ρ : Rho} {n c : Nat} {x : Value} (r : VRel ρ (.slice none n c) x) : ∃ n' c', x = .slice none n' c' := by
  cases r.leaf (by simp) (by simp) with
  | plain hp => exact ⟨_, _, rfl⟩
theorem VRel.ptrSome {ρ : Rho} {a : Addr} {x : Value} (r : VRel ρ (.pointer (some a)) x) : ∃ a', x = .pointer (some a') := by
  cases r.leaf (by simp) (by simp) with
  | plain hp => simp [leafPlain] at hp
  | ptr => exact ⟨_, rfl⟩
theorem VRel.funcSome {ρ : Rho} {f : Fn} {a b : Array Value} {x : Value} (r : VRel ρ (.func f a b) x) : ∃ a' b', x = .func f a' b' := by
  cases r.leaf (by simp) (by simp) with
  | plain hp => exact ⟨_, _, rfl⟩
  | func => exact ⟨_, _, rfl⟩
theorem aNilEq_run {P : Program} {ρ : Rho} {t : TypeId} {x y x' y' : Value} (h : aNilEq P t x y = true) (rx : VRel ρ x x') (ry : VRel ρ y y') : NilPair P t x' y' := by
  unfold aNilEq at h
  split at h
  · split at h
    case h_2 => cases h
    rename_i e hu
    have := ry.eq_of_plain rfl; subst this
    obtain ⟨a', rfl⟩ := rx.ptrSome
    exact nilPair1 hu
  · split at h
    case h_2 => cases h
    rename_i e hu
    have := rx.eq_of_plain rfl; subst this
    obtain ⟨a', rfl⟩ := ry.ptrSome
    exact nilPair2 hu
  · split at h
    case h_2 => cases h
    rename_i e hu
    obtain ⟨_, _, rfl⟩ := ry.sliceNone
    obtain ⟨_, _, _, rfl⟩ := rx.sliceSome
    exact nilPair3 hu
  · split at h
    case h_2 => cases h
    rename_i e hu
    obtain ⟨_, _, rfl⟩ := rx.sliceNone
    obtain ⟨_, _, _, rfl⟩ := ry.sliceSome
    exact nilPair4 hu
  · split at h
    case h_2 => cases h
    rename_i e hu
    have := ry.eq_of_plain rfl; subst this
    obtain ⟨_, _, rfl⟩ := rx.funcSome
    exact nilPair5 hu
  · cases h
theorem aBin_sound {P : Program} {ρ : Rho} {op : BinOp} {t : TypeId} {ox oy : Operand} {x y x' y' v : Value} (h : aBin P op t ox oy x y = some v) (rx : VRel ρ x x') (ry : VRel ρ y y') :
    SP P ρ (do eqGuard op t ox oy x' y'; binOp op t x' y') v := by
  unfold aBin at h
  split at h
  · rename_i hp
    simp only [Bool.and_eq_true] at hp
    have := rx.eq_of_cellsPlain hp.1; subst this
    have := ry.eq_of_cellsPlain hp.2; subst this
    exact apure_sound h
  · split at h
    case h_2 => cases h
    rename_i hn
    split at h
    · cases h
      refine ⟨.bool false, fun w => ?_, .plain rfl⟩
      obtain ⟨h1, h2, h3, h4⟩ := aNilEq_run hn rx ry w
      simp [h1, h2, h3]
    · cases h
      refine ⟨.bool true, fun w => ?_, .plain rfl⟩
      obtain ⟨h1, h2, h3, h4⟩ := aNilEq_run hn rx ry w
      simp [h1, h2, h4]
    · cases h

/-! ### Cells of a value; building -/
def acells : Value → Option (List Value)
  | .agg cs => some cs.toList
  | .tuple _ => none
  | v => some [v]
theorem acells_sound {ρ : Rho} {v v' : Value} {l : List Value} (h : acells v = some l) (r : VRel ρ v v') : F2 (LRel ρ) l v'.cells.toList := by
  cases r with
  | one k => cases k with
    | one k =>
      have : l = [v] ∧ v'.cells = #[v'] := by
        cases k with
        | plain hp => cases v <;> simp [acells, leafPlain] at h hp ⊢ <;> first | exact ⟨h.symm, rfl⟩ | contradiction
        | ptr => simp [acells] at h; exact ⟨h.symm, rfl⟩
        | slice => simp [acells] at h; exact ⟨h.symm, rfl⟩
        | sliceE => simp [acells] at h; exact ⟨h.symm, rfl⟩
        | func => simp [acells] at h; exact ⟨h.symm, rfl⟩
      rw [this.1, this.2]; exact .cons k .nil
    | agg k => simp only [acells, Option.some.injEq] at h; subst h; exact k
  | tuple k => cases h

/-- Values laid into a list from a place on. -/
def lay (l : List Value) : Nat → List Value → List Value
  | _, [] => l
  | i, v :: vs => lay (l.set i v) (i + 1) vs
theorem lay_length : ∀ (vs l : List Value) (i : Nat), (lay l i vs).length = l.length := by
  intro vs
  induction vs with
  | nil => intro l i; rfl
  | cons v vs ih => intro l i; rw [lay, ih, List.length_set]
theorem F2.lay {ρ : Rho} {vs vs' : List Value} (h : F2 (LRel ρ) vs vs') : ∀ {l l' : List Value} (i : Nat), F2 (LRel ρ) l l' → F2 (LRel ρ) (lay l i vs) (Vai.lay l' i vs') := by
  induction h with
  | nil => intro l l' i k; exact k
  | cons h t ih => intro l l' i k; exact ih (i + 1) (k.set i _ _ h)
theorem foldl_lay : ∀ (vs : List Value) (cs : Array Value) (off k : Nat), ((vs.zipIdx k).foldl (fun cs (x : Value × Nat) => cs.setIfInBounds (off + x.2) x.1) cs).toList = lay cs.toList (off + k) vs := by
  intro vs
  induction vs with
  | nil => intro cs off k; rfl
  | cons v vs ih =>
    intro cs off k
    simp only [List.zipIdx_cons, List.foldl_cons]
    rw [ih, lay]
    simp [Nat.add_assoc]

def aFill (place : Nat → Option (Nat × Nat)) (cells : List Value) : List (Nat × Value) → Option (List Value)
  | [] => some cells
  | (i, v) :: rest =>
    match place i, acells v with
    | some (off, size), some l => match Nat.beq l.length size && Nat.ble (off + size) cells.length with
      | true => aFill place (lay cells off l) rest
      | false => none
    | _, _ => none
theorem aFill_sound {ρ : Rho} {place : Nat → Option (Nat × Nat)} : ∀ (parts parts' : List (Nat × Value)) (cells l : List Value) (cells' : Array Value), aFill place cells parts = some l →
    F2 (fun p p' => p.1 = p'.1 ∧ VRel ρ p.2 p'.2) parts parts' → F2 (LRel ρ) cells cells'.toList → ∃ l', Instr.fill place cells' parts' = some l' ∧ F2 (LRel ρ) l l'.toList ∧ l.length = cells.length := by
  intro parts
  induction parts with
  | nil =>
    intro parts' cells l cells' h hp hc
    cases hp
    simp only [aFill, Option.some.injEq] at h
    subst h
    exact ⟨cells', rfl, hc, rfl⟩
  | cons p parts ih =>
    intro parts' cells l cells' h hp hc
    obtain ⟨i, v⟩ := p
    cases hp with
    | cons h0 ht =>
      rename_i p' parts'
      obtain ⟨i', v'⟩ := p'
      obtain ⟨e1, rv⟩ := h0
      simp only at e1 rv
      subst e1
      simp only [aFill] at h
      split at h
      case h_2 => cases h
      rename_i off size vl hpl hvl
      split at h
      case h_2 => cases h
      rename_i hck
      simp only [Bool.and_eq_true, Nat.ble_eq] at hck
      have hls : vl.length = size := Nat.eq_of_beq_eq_true hck.1
      have hcl := acells_sound hvl rv
      have e2 : v'.cells.size = size := by have := hcl.length; simp at this; omega
      have e3 : cells.length = cells'.size := by have := hc.length; simpa using this
      have hfold : (v'.cells.zipIdx.foldl (fun cs (x : Value × Nat) => cs.setIfInBounds (off + x.2) x.1) cells').toList = lay cells'.toList off v'.cells.toList := by
        rw [← Array.foldl_toList, Array.toList_zipIdx]
        exact foldl_lay v'.cells.toList cells' off 0
      have := ih parts' (lay cells off vl) l (v'.cells.zipIdx.foldl (fun cs (x : Value × Nat) => cs.setIfInBounds (off + x.2) x.1) cells') h ht (by rw [hfold]; exact hcl.lay off hc)
      obtain ⟨l', q1, q2, q3⟩ := this
      refine ⟨l', ?_, q2, by rw [q3, lay_length]⟩
      simp only [Instr.fill, hpl]
      rw [if_neg]
      · exact q1
      · simp; omega

end Go.Vai

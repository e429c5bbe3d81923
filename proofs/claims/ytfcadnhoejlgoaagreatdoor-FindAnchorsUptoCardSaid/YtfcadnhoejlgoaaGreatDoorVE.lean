/-
  What is proved here: more value operations (parts of structs and arrays, comparisons with nil, building), and those that read, write or make memory (load, store, new variables, slices made, append), of a plain interpreter of Go code, are matched by the machine's (part E). the operations of a plain interpreter of Go code that read, write or make memory (load, store, new variables, slices that are built or made, append, copy, strings and bytes) are matched by the machine's (part F). No conditions but those that the theorems state.
-/
import Derived.Test.YtfcadnhoejlgoaaGreatDoorVC
import Derived.Laws.StructEq
import GoSem.Dispatch
import GoSem.Machine.Frame
import Derived.Lib.ConvBytes
import Derived.Laws.BytesArg
set_option linter.unusedVariables false
set_option linter.unusedSimpArgs false
namespace Go.Vai
noncomputable section
def isAggB (P : Program) (t : TypeId) : Option Bool := match P.underlying t with
 | some (.struct _) => some true
 | some (.array _ _) => some true
 | some _ => some false
 | none => none
theorem run_isAgg_some {P : Program} {t : TypeId} {b : Bool} (h : isAggB P t = some b) (w : World) : (isAgg t).run P w = .ok b w := by
 unfold isAggB at h
 split at h
 · rename_i fs hu; cases h; simp [isAgg, run_underlying_some hu]
 · rename_i n e hu; cases h; simp [isAgg, run_underlying_some hu]
 ·
  rename_i d h1 h2 hu
  cases h
  simp only [isAgg, Sem.run_bind, run_underlying_some hu, Result.andThen_ok]
  cases d <;> first | rfl | exact absurd rfl (h1 _) | exact absurd rfl (h2 _ _)
 · cases h
def aPart (P : Program) (t : TypeId) (cs : Array Value) (off : Nat) : Option Value :=
 match isAggB P t with
 | some true => match sz P t with
  | some n => some (.agg (cs.extract off (off + n)))
  | none => none
 | some false => cs[off]?
 | none => none
theorem F2.extract {ρ : Rho} {cs cs' : Array Value} (h : F2 (LRel ρ) cs.toList cs'.toList) (i j : Nat) : F2 (LRel ρ) (cs.extract i j).toList (cs'.extract i j).toList := by
 rw [Array.toList_extract, Array.toList_extract]
 simp only [List.extract_eq_take_drop]
 exact (h.drop _).take _
theorem aPart_sound {P : Program} {ρ : Rho} {t : TypeId} {cs cs' : Array Value} {off : Nat} {v : Value} (h : aPart P t cs off = some v) (r : F2 (LRel ρ) cs.toList cs'.toList) : SP P ρ (part t cs' off) v := by
 unfold aPart at h
 split at h
 ·
  rename_i ha
  split at h
  ·
   rename_i n hn
   cases h
   exact ⟨_, fun w => by simp [part, run_isAgg_some ha, run_sz hn], .one (.agg (r.extract _ _))⟩
  · cases h
 ·
  rename_i ha
  obtain ⟨v', h1, h2⟩ := r.get off v (by simpa using h)
  refine ⟨v', fun w => ?_, .one (.one h2)⟩
  have : cs'[off]? = some v' := by simpa using h1
  simp [part, run_isAgg_some ha, this]
 · cases h
def aField (P : Program) (t : TypeId) (x : Value) (f : Nat) : Option Value :=
 match P.underlying t with
 | some (.struct fields) => match fields[f]? with
  | some fd => match x with
   | .agg cs => aPart P fd.type cs fd.offset
   | _ => none
  | none => none
 | _ => none
theorem VRel.agg_inv {ρ : Rho} {cs : Array Value} {v' : Value} (r : VRel ρ (.agg cs) v') : ∃ cs', v' = .agg cs' ∧ F2 (LRel ρ) cs.toList cs'.toList := by
 cases r with
 | one k => cases k with
  | one k => cases k; contradiction
  | agg k => exact ⟨_, rfl, k⟩
theorem VRel.tuple_inv {ρ : Rho} {cs : Array Value} {v' : Value} (r : VRel ρ (.tuple cs) v') : ∃ cs', v' = .tuple cs' ∧ F2 (VRel1 ρ) cs.toList cs'.toList := by
 cases r with
 | one k => cases k with
  | one k => cases k; contradiction
 | tuple k => exact ⟨_, rfl, k⟩
theorem aField_sound {P : Program} {ρ : Rho} {t : TypeId} {x x' v : Value} {f : Nat} (h : aField P t x f = some v) (r : VRel ρ x x') : SP P ρ (Instr.field t x' f) v := by
 unfold aField at h
 split at h
 case h_2 => cases h
 rename_i fields hu
 split at h
 case h_2 => cases h
 rename_i fd hf
 split at h
 case h_2 => cases h
 rename_i cs
 obtain ⟨cs', rfl, hr⟩ := r.agg_inv
 obtain ⟨v', h1, h2⟩ := aPart_sound h hr
 exact ⟨v', fun w => by simp [Instr.field, run_underlying_some hu, hf, asAgg, h1], h2⟩
def aIndex (P : Program) (t : TypeId) (x ix : Value) : Option Value :=
 match ix with
 | .int k j => match x with
  | .string s => apure P (Instr.index t (.string s) (.int k j))
  | .agg cs => match P.underlying t with
   | some (.array n elem) => match sz P elem with
    | some e => match decide (0 ≤ j) && decide (j < n) with
     | true => aPart P elem cs (j.toNat * e)
     | false => none
    | none => none
   | _ => none
  | _ => none
 | _ => none
theorem aIndex_sound {P : Program} {ρ : Rho} {t : TypeId} {x x' ix ix' v : Value} (h : aIndex P t x ix = some v) (r : VRel ρ x x') (ri : VRel ρ ix ix') : SP P ρ (Instr.index t x' ix') v := by
 unfold aIndex at h
 split at h
 case h_2 => cases h
 rename_i k j
 have := ri.eq_of_plain rfl; subst this
 split at h
 · have := r.eq_of_plain rfl; subst this; exact apure_sound h
 ·
  rename_i cs
  split at h
  case h_2 => cases h
  rename_i n elem hu
  split at h
  case h_2 => cases h
  rename_i e he
  split at h
  case h_2 => cases h
  rename_i hj
  simp only [Bool.and_eq_true, decide_eq_true_eq] at hj
  obtain ⟨cs', rfl, hr⟩ := r.agg_inv
  obtain ⟨v', h1, h2⟩ := aPart_sound h hr
  exact ⟨v', fun w => by simp [Instr.index, asIntOf, run_underlying_some hu, hj.1, hj.2, run_sz he, h1], h2⟩
 · cases h
def aExtract (x : Value) (i : Nat) : Option Value := match x with
 | .tuple vs => vs[i]?
 | _ => none
theorem aExtract_sound {P : Program} {ρ : Rho} {x x' v : Value} {i : Nat} (h : aExtract x i = some v) (r : VRel ρ x x') : SP P ρ (Instr.extract x' i) v := by
 unfold aExtract at h
 split at h
 ·
  rename_i vs
  obtain ⟨vs', rfl, hr⟩ := r.tuple_inv
  obtain ⟨v', h1, h2⟩ := hr.get i v (by simpa using h)
  have : vs'[i]? = some v' := by simpa using h1
  exact ⟨v', fun w => by simp [Instr.extract, this], .one h2⟩
 · cases h
def aNilEq (P : Program) (t : TypeId) (x y : Value) : Bool :=
 match x, y with
 | .pointer (some _), .pointer none => match P.underlying t with | some (.pointer _) => true | _ => false
 | .pointer none, .pointer (some _) => match P.underlying t with | some (.pointer _) => true | _ => false
 | .slice (some _) _ _, .slice none _ _ => match P.underlying t with | some (.slice _) => true | _ => false
 | .slice none _ _, .slice (some _) _ _ => match P.underlying t with | some (.slice _) => true | _ => false
 | .func _ _ _, .nilFunc => match P.underlying t with | some (.func _ _ _) => true | _ => false
 | _, _ => false
def ltI : Int → Int → Bool
 | .ofNat m, .ofNat n => Nat.blt m n
 | .ofNat _, .negSucc _ => false
 | .negSucc _, .ofNat _ => true
 | .negSucc m, .negSucc n => Nat.blt n m
def eqI : Int → Int → Bool
 | .ofNat m, .ofNat n => Nat.beq m n
 | .negSucc m, .negSucc n => Nat.beq m n
 | _, _ => false
theorem ltI_eq (x y : Int) : ltI x y = decide (x < y) := by
 cases x <;> cases y <;> simp only [ltI] <;> (apply Bool.eq_iff_iff.2; simp only [decide_eq_true_eq, Nat.blt_eq, Bool.false_eq_true, true_iff, false_iff, Int.ofNat_eq_natCast, Int.negSucc_eq]) <;> omega
theorem eqI_eq (x y : Int) : eqI x y = (x == y) := by
 cases x <;> cases y <;> simp only [eqI] <;> (apply Bool.eq_iff_iff.2; simp only [beq_iff_eq, Nat.beq_eq, Bool.false_eq_true, false_iff, Int.ofNat_eq_natCast, Int.negSucc_eq]) <;> omega
def kHi : IntKind → Nat
 | .i8 => 128
 | .i16 => 32768
 | .i32 => 2147483648
 | .i64 => 9223372036854775808
 | .u8 => 256
 | .u16 => 65536
 | .u32 => 4294967296
 | .u64 => 18446744073709551616
def kSg : IntKind → Bool
 | .i8 => true
 | .i16 => true
 | .i32 => true
 | .i64 => true
 | _ => false
def wrapQ (k : IntKind) (n : Int) : Int :=
 match n with
 | .ofNat m => match Nat.blt m (kHi k) with
  | true => .ofNat m
  | false => match kSg k with
   | true => k.wrap (.ofNat m)
   | false => .ofNat (Nat.mod m (kHi k))
 | .negSucc m => match kSg k && Nat.blt m (kHi k) with
  | true => .negSucc m
  | false => k.wrap (.negSucc m)
theorem wrap_in {k : IntKind} {n : Int} (h0 : kSg k = false → 0 ≤ n) (h1 : -(kHi k : Int) ≤ n) (h2 : n < kHi k) : k.wrap n = n := by
 unfold IntKind.wrap
 cases k <;> simp [IntKind.bits, IntKind.signed, kHi, kSg] at h0 h1 h2 ⊢ <;> omega
theorem wrap_un {k : IntKind} {m : Nat} (h : kSg k = false) : k.wrap (m : Int) = ((Nat.mod m (kHi k) : Nat) : Int) := by
 have e : Nat.mod m (kHi k) = m % kHi k := rfl
 rw [e]
 unfold IntKind.wrap
 cases k <;> simp [kSg] at h <;> simp [IntKind.bits, IntKind.signed, kHi]
theorem wrapQ_eq (k : IntKind) (n : Int) : wrapQ k n = k.wrap n := by
 unfold wrapQ
 cases n with
 | ofNat m =>
  simp only
  split
  ·
   rename_i h
   have h : m < kHi k := by simpa using h
   simp only [Int.ofNat_eq_natCast]
   exact (wrap_in (fun _ => by omega) (by omega) (by omega)).symm
  ·
   split
   · rfl
   · rename_i h; simp only [Int.ofNat_eq_natCast]; exact (wrap_un h).symm
 | negSucc m =>
  simp only
  split
  ·
   rename_i h
   simp only [Bool.and_eq_true, Nat.blt_eq] at h
   refine (wrap_in (fun hx => by rw [h.1] at hx; cases hx) ?_ ?_).symm
   · rw [Int.negSucc_eq]; omega
   · rw [Int.negSucc_eq]; omega
  · rfl
theorem kHi_le (k : IntKind) : kHi k ≤ 2 ^ k.bits := by cases k <;> decide
def qbit (k : IntKind) (f : Nat → Nat → Nat) (a b : Int) : Option Value :=
 match a, b with
 | .ofNat m, .ofNat n => match Nat.blt m (kHi k) && Nat.blt n (kHi k) with
  | true => some (.int k (wrapQ k (.ofNat (f m n))))
  | false => none
 | _, _ => none
def qsh (op : BinOp) (k : IntKind) (a b : Int) : Option Value :=
 match a, b with
 | .ofNat m, .ofNat n => match Nat.ble n k.bits with
  | true => match op with
   | .shl => some (.int k (wrapQ k (.ofNat (Nat.mul m (Nat.pow 2 n)))))
   | .shr => some (.int k (.ofNat (Nat.div m (Nat.pow 2 n))))
   | _ => none
  | false => none
 | _, _ => none
def qdiv (op : BinOp) (k : IntKind) (a b : Int) : Option Value :=
 match a, b with
 | .ofNat m, .ofNat n => match Nat.blt 0 n with
  | true => match op with
   | .quo => some (.int k (wrapQ k (.ofNat (Nat.div m n))))
   | .rem => some (.int k (.ofNat (Nat.mod m n)))
   | _ => none
  | false => none
 | _, _ => none
def qint (op : BinOp) (k : IntKind) (a b : Int) : Option Value :=
 match op with
 | .add => some (.int k (wrapQ k (a + b)))
 | .sub => some (.int k (wrapQ k (a - b)))
 | .mul => some (.int k (wrapQ k (a * b)))
 | .quo => qdiv .quo k a b
 | .rem => qdiv .rem k a b
 | .and => qbit k Nat.land a b
 | .or => qbit k Nat.lor a b
 | .xor => qbit k Nat.xor a b
 | .eql => some (.bool (eqI a b))
 | .neq => some (.bool (!eqI a b))
 | .lss => some (.bool (ltI a b))
 | .leq => some (.bool (!ltI b a))
 | .gtr => some (.bool (ltI b a))
 | .geq => some (.bool (!ltI a b))
 | _ => none
def kIx : IntKind → Nat
 | .i8 => 0
 | .i16 => 1
 | .i32 => 2
 | .i64 => 3
 | .u8 => 4
 | .u16 => 5
 | .u32 => 6
 | .u64 => 7
def kEq (k k' : IntKind) : Bool := Nat.beq (kIx k) (kIx k')
theorem kEq_eq {k k' : IntKind} (h : kEq k k' = true) : k = k' := by
 cases k <;> cases k' <;> first | rfl | cases h
def qbin (op : BinOp) (x y : Value) : Option Value :=
 match x, y with
 | .int k a, .int k' b => match op with
  | .shl => qsh .shl k a b
  | .shr => qsh .shr k a b
  | op => match kEq k k' with
   | true => qint op k a b
   | false => none
 | _, _ => none
theorem ofInt_nat {k : IntKind} {m : Nat} (h : m < kHi k) : (BitVec.ofInt k.bits (Int.ofNat m)).toNat = m := by
 have := kHi_le k
 have e : BitVec.ofInt k.bits (Int.ofNat m) = BitVec.ofNat k.bits m := by
  simp
 rw [e, BitVec.toNat_ofNat, Nat.mod_eq_of_lt (by omega)]
theorem qint_sound {P : Program} {op : BinOp} {k : IntKind} {a b : Int} {v : Value} (t : TypeId) (h : qint op k a b = some v) : (∀ w, (binOp op t (.int k a) (.int k b)).run P w = .ok v w) ∧ leafPlain v = true := by
  have bits : ∀ (f : Nat → Nat → Nat) (g : BitVec k.bits → BitVec k.bits → BitVec k.bits), (∀ m n : Nat, m < kHi k → n < kHi k → (g (BitVec.ofInt k.bits (Int.ofNat m)) (BitVec.ofInt k.bits (Int.ofNat n))).toNat = f m n) →
      qbit k f a b = some v → v = .int k (k.wrap (g (BitVec.ofInt k.bits a) (BitVec.ofInt k.bits b)).toNat) := by
    intro f g hg hq
    unfold qbit at hq
    split at hq
    · rename_i m n
      split at hq
      · rename_i hb
        simp only [Bool.and_eq_true, Nat.blt_eq] at hb
        cases hq
        rw [wrapQ_eq, hg m n hb.1 hb.2]; rfl
      · cases hq
    · cases hq
  cases op <;> simp only [qint] at h <;> first | (cases h; done) | skip
  case add => cases h; exact ⟨fun w => by rw [wrapQ_eq]; simp [binOp, Op.intArith], rfl⟩
  case sub => cases h; exact ⟨fun w => by rw [wrapQ_eq]; simp [binOp, Op.intArith], rfl⟩
  case mul => cases h; exact ⟨fun w => by rw [wrapQ_eq]; simp [binOp, Op.intArith], rfl⟩
  case quo =>
    unfold qdiv at h
    split at h
    · rename_i m n
      split at h
      · rename_i hn
        have hn : 0 < n := by simpa using hn
        simp only at h
        cases h
        refine ⟨fun w => ?_, rfl⟩
        have : ¬ (Int.ofNat n = 0) := by simp; omega
        rw [wrapQ_eq]
        simp only [binOp, Op.intDiv, ne_eq, not_true_eq_false, if_false, this]
        rfl
      · cases h
    · cases h
  case rem =>
    unfold qdiv at h
    split at h
    · rename_i m n
      split at h
      · rename_i hn
        have hn : 0 < n := by simpa using hn
        simp only at h
        cases h
        refine ⟨fun w => ?_, rfl⟩
        have : ¬ (Int.ofNat n = 0) := by simp; omega
        simp only [binOp, Op.intDiv, ne_eq, not_true_eq_false, if_false, this]
        rfl
      · cases h
    · cases h
  case and =>
    have := bits Nat.land (· &&& ·) (fun m n hm hn => by rw [BitVec.toNat_and, ofInt_nat hm, ofInt_nat hn]; rfl) h
    subst this
    exact ⟨fun w => by simp [binOp, Op.intBits], rfl⟩
  case or =>
    have := bits Nat.lor (· ||| ·) (fun m n hm hn => by rw [BitVec.toNat_or, ofInt_nat hm, ofInt_nat hn]; rfl) h
    subst this
    exact ⟨fun w => by simp [binOp, Op.intBits], rfl⟩
  case xor =>
    have := bits Nat.xor (· ^^^ ·) (fun m n hm hn => by rw [BitVec.toNat_xor, ofInt_nat hm, ofInt_nat hn]; rfl) h
    subst this
    exact ⟨fun w => by simp [binOp, Op.intBits], rfl⟩
  all_goals
    simp only [Option.some.injEq] at h
    subst h
    refine ⟨fun w => ?_, rfl⟩
    simp only [ltI_eq, eqI_eq]
    first
      | rfl
      | (simp only [binOp, Op.intCmp, ne_eq, not_true_eq_false, if_false, Sem.run_pure]; done)
      | (simp only [binOp, Op.intCmp, ne_eq, not_true_eq_false, if_false, Sem.run_pure]
         have hh : ∀ (p q : Bool), p = q → (Result.ok (Value.bool p) w : Result Value) = Result.ok (Value.bool q) w := fun p q e => by rw [e]
         exact hh _ _ (by first
           | rfl
           | (apply Bool.eq_iff_iff.2
              simp
              done)
           | (apply Bool.eq_iff_iff.2
              simp
              omega)))
theorem qsh_sound {P : Program} {op : BinOp} {k k' : IntKind} {a b : Int} {v : Value} (t : TypeId) (h : qsh op k a b = some v) : (∀ w, (binOp op t (.int k a) (.int k' b)).run P w = .ok v w) ∧ leafPlain v = true := by
 unfold qsh at h
 split at h
 case h_2 => cases h
 rename_i m n
 split at h
 case h_2 => cases h
 rename_i hn
 have hn : n ≤ k.bits := by simpa using hn
 have hneg : ¬ (Int.ofNat n < 0) := by simp
 have hmin : min (Int.ofNat n).toNat k.bits = n := by simp; omega
 split at h
 ·
  cases h
  refine ⟨fun w => ?_, rfl⟩
  simp only [binOp, Op.shift, hneg, if_false, hmin]
  rw [wrapQ_eq]
  rfl
 ·
  cases h
  refine ⟨fun w => ?_, rfl⟩
  simp only [binOp, Op.shift, hneg, if_false, hmin]
  have e : (Int.ofNat m).fdiv (2 ^ n) = Int.ofNat (Nat.div m (Nat.pow 2 n)) := by
   rw [Int.fdiv_eq_ediv_of_nonneg _ (Int.pow_nonneg (by decide))]
   show (m : Int) / (2 : Int) ^ n = ((m / 2 ^ n : Nat) : Int)
   simp
  rw [e]
  rfl
 · cases h
theorem qbin_sound {P : Program} {ρ : Rho} {op : BinOp} {t : TypeId} {ox oy : Operand} {x y x' y' v : Value} (h : qbin op x y = some v) (rx : VRel ρ x x') (ry : VRel ρ y y') :
  SP P ρ (do eqGuard op t ox oy x' y'; binOp op t x' y') v := by
 unfold qbin at h
 split at h
 case h_2 => cases h
 rename_i k a k' b
 have := rx.eq_of_plain rfl; subst this
 have := ry.eq_of_plain rfl; subst this
 have hg : ∀ w, (eqGuard op t ox oy (.int k a) (.int k' b)).run P w = .ok () w := fun w => by
  unfold eqGuard; split <;> rfl
 have fin : (∀ w, (binOp op t (.int k a) (.int k' b)).run P w = .ok v w) ∧ leafPlain v = true → SP P ρ (do eqGuard op t ox oy (.int k a) (.int k' b); binOp op t (.int k a) (.int k' b)) v :=
  fun q => ⟨v, fun w => by rw [Sem.run_bind, hg, Result.andThen_ok]; exact q.1 w, .plain q.2⟩
 split at h
 · exact fin (qsh_sound t h)
 · exact fin (qsh_sound t h)
 ·
  split at h
  case h_2 => cases h
  rename_i hk
  have hk : k = k' := kEq_eq hk
  subst hk
  exact fin (qint_sound t h)
def flatOk (P : Program) : Nat → List Field → Bool
 | _, [] => true
 | i, f :: fs => match decide (f.name ≠ "_") && Nat.beq f.offset i, isAggB P f.type, P.underlying f.type with
  | true, some false, some (.int _) => flatOk P (i + 1) fs
  | _, _, _ => false
def flatStruct (P : Program) (t : TypeId) : Option (List Field) :=
 match P.underlying t with
 | some (.struct fs) => match flatOk P 0 fs.toList && !P.stoodInHeld t && !P.eqGuardType P.depth t with
  | true => some fs.toList
  | false => none
 | _ => none
def eqF : List Field → List Value → List Value → Option Bool
 | [], _, _ => some true
 | _ :: fs, v :: xs, u :: ys => match v, u with
  | .int k a, .int k' b => match kEq k k' with
   | true => match eqI a b with
    | true => eqF fs xs ys
    | false => some false
   | false => none
  | _, _ => none
 | _, _, _ => none
theorem eqF_sound {P : Program} {d : Nat} {xs ys : Array Value} {w : World} : ∀ (fs : List Field) (i : Nat) (r : Bool), flatOk P i fs = true → eqF fs (xs.toList.drop i) (ys.toList.drop i) = some r → (Op.eqFields (d + 1) xs ys fs).run P w = .ok r w := by
 intro fs
 induction fs with
 | nil => intro i r _ h; simp only [eqF, Option.some.injEq] at h; subst h; rfl
 | cons f fs ih =>
  intro i r hf h
  simp only [flatOk] at hf
  split at hf
  case h_2 => cases hf
  rename_i k0 hck ha hu
  simp only [Bool.and_eq_true, decide_eq_true_eq] at hck
  have ho : f.offset = i := Nat.eq_of_beq_eq_true hck.2
  unfold eqF at h
  split at h
  · rename_i hx; cases hx
  ·
   rename_i v xs' u ys' hfs hx hy
   cases hfs
   split at h
   case h_2 => cases h
   rename_i k a k' b
   split at h
   case h_2 => cases h
   rename_i hk
   have hk : k = k' := kEq_eq hk
   subst hk
   have hxv : xs[i]? = some (.int k a) := by
    have : (xs.toList.drop i)[0]? = some (.int k a) := by rw [hx]; rfl
    simpa using this
   have hyv : ys[i]? = some (.int k b) := by
    have : (ys.toList.drop i)[0]? = some (.int k b) := by rw [hy]; rfl
    simpa using this
   have hxs : xs.toList.drop (i + 1) = xs' := by rw [← List.tail_drop, hx]; rfl
   have hys : ys.toList.drop (i + 1) = ys' := by rw [← List.tail_drop, hy]; rfl
   have p1 : (part f.type xs f.offset).run P w = .ok (.int k a) w := by simp [part, run_isAgg_some ha, ho, hxv]
   have p2 : (part f.type ys f.offset).run P w = .ok (.int k b) w := by simp [part, run_isAgg_some ha, ho, hyv]
   have p3 : (Op.equalIn (d + 1) f.type (.int k a) (.int k b)).run P w = .ok (a == b) w := run_equalIn_int w d f.type k _ a b hu
   simp only [Op.eqFields]
   rw [if_pos hck.1]
   simp only [Sem.run_bind, p1, p2, p3, Result.andThen_ok]
   rw [eqI_eq] at h
   split at h
   ·
    rename_i hab
    rw [hab]
    simp only [Bool.not_true, Bool.false_eq_true, if_false]
    exact ih (i + 1) r hf (by rw [hxs, hys]; exact h)
   ·
    rename_i hab
    cases h
    rw [hab]
    rfl
  · cases h
def qagg (P : Program) (op : BinOp) (t : TypeId) (x y : Value) : Option Value :=
 match x, y with
 | .agg xs, .agg ys => match op with
  | .eql => match flatStruct P t with
   | some fs => match eqF fs xs.toList ys.toList with
    | some r => some (.bool r)
    | none => none
   | none => none
  | .neq => match flatStruct P t with
   | some fs => match eqF fs xs.toList ys.toList with
    | some r => some (.bool (!r))
    | none => none
   | none => none
  | _ => none
 | _, _ => none
theorem eqF_plain : ∀ (fs : List Field) (xs ys : List Value) (r : Bool) {ρ : Rho} {xs' ys' : List Value}, eqF fs xs ys = some r → F2 (LRel ρ) xs xs' → F2 (LRel ρ) ys ys' → eqF fs xs' ys' = some r := by
 intro fs
 induction fs with
 | nil => intro xs ys r ρ xs' ys' h _ _; simp only [eqF] at h ⊢; exact h
 | cons f fs ih =>
  intro xs ys r ρ xs' ys' h hx hy
  cases hx with
  | nil => simp [eqF] at h
  | cons h1 t1 =>
   cases hy with
   | nil => simp [eqF] at h
   | cons h2 t2 =>
    simp only [eqF] at h
    split at h
    case h_2 => cases h
    have e1 := h1.eq_of_plain rfl
    have e2 := h2.eq_of_plain rfl
    subst e1 e2
    simp only [eqF]
    split at h
    case h_2 => cases h
    revert h
    generalize eqI _ _ = q
    cases q
    · exact id
    · exact fun h => ih _ _ r h t1 t2
theorem qagg_sound {P : Program} {ρ : Rho} {op : BinOp} {t : TypeId} {ox oy : Operand} {x y x' y' v : Value} (h : qagg P op t x y = some v) (rx : VRel ρ x x') (ry : VRel ρ y y') :
  SP P ρ (do eqGuard op t ox oy x' y'; binOp op t x' y') v := by
 have core : ∀ (xs ys : Array Value) (fs : List Field) (r : Bool), flatStruct P t = some fs → eqF fs xs.toList ys.toList = some r → (∀ w, (Op.equalIn 10000 t (.agg xs) (.agg ys)).run P w = .ok r w) ∧ P.eqGuardType P.depth t = false := by
  intro xs ys fs r hf he
  unfold flatStruct at hf
  split at hf
  case h_2 => cases hf
  rename_i fa hu
  split at hf
  case h_2 => cases hf
  rename_i hck
  simp only [Bool.and_eq_true, Bool.not_eq_true'] at hck
  cases hf
  have hfo : P.fieldsOf t = fa := by unfold Program.fieldsOf; rw [hu]
  refine ⟨fun w => ?_, hck.2⟩
  rw [run_equalIn_agg w 9999 t xs ys (by rw [hfo]; exact hu) hck.1.2, hfo]
  exact eqF_sound (d := 9998) fa.toList 0 r hck.1.1 (by simpa using he)
 unfold qagg at h
 split at h
 case h_2 => cases h
 rename_i xs ys
 obtain ⟨xs', rfl, qx⟩ := rx.agg_inv
 obtain ⟨ys', rfl, qy⟩ := ry.agg_inv
 split at h
 ·
  split at h
  case h_2 => cases h
  rename_i fs hf
  split at h
  case h_2 => cases h
  rename_i r he
  cases h
  obtain ⟨c1, c2⟩ := core xs' ys' fs r hf (eqF_plain _ _ _ _ he qx qy)
  refine ⟨.bool r, fun w => ?_, .plain rfl⟩
  rw [Sem.run_bind, run_eqGuard_agg w _ _ _ _ _ _ c2, Result.andThen_ok, run_eql_struct, c1]
  rfl
 ·
  split at h
  case h_2 => cases h
  rename_i fs hf
  split at h
  case h_2 => cases h
  rename_i r he
  cases h
  obtain ⟨c1, c2⟩ := core xs' ys' fs r hf (eqF_plain _ _ _ _ he qx qy)
  refine ⟨.bool (!r), fun w => ?_, .plain rfl⟩
  rw [Sem.run_bind, run_eqGuard_agg w _ _ _ _ _ _ c2, Result.andThen_ok, run_neq_struct, c1]
  rfl
 · cases h
def aBinS (P : Program) (op : BinOp) (t : TypeId) (ox oy : Operand) (x y : Value) : Option Value :=
 match cellsPlain x && cellsPlain y with
 | true => apure P (do eqGuard op t ox oy x y; binOp op t x y)
 | false => match aNilEq P t x y with
  | true => match op with
   | .eql => some (.bool false)
   | .neq => some (.bool true)
   | _ => none
  | false => none
theorem eqIn1 {P : Program} {d : Nat} {t e : TypeId} {a : Addr} (hu : P.underlying t = some (.pointer e)) (w : World) : (Op.equalIn (d + 1) t (.pointer (some a)) (.pointer none)).run P w = .ok false w := by
 simp only [Op.equalIn, Sem.run_bind, run_underlying_some hu, Result.andThen_ok]; rfl
theorem eqIn2 {P : Program} {d : Nat} {t e : TypeId} {a : Addr} (hu : P.underlying t = some (.pointer e)) (w : World) : (Op.equalIn (d + 1) t (.pointer none) (.pointer (some a))).run P w = .ok false w := by
 simp only [Op.equalIn, Sem.run_bind, run_underlying_some hu, Result.andThen_ok]; rfl
theorem eqIn3 {P : Program} {d : Nat} {t e : TypeId} {a : Addr} {n c n2 c2 : Nat} (hu : P.underlying t = some (.slice e)) (w : World) : (Op.equalIn (d + 1) t (.slice (some a) n c) (.slice none n2 c2)).run P w = .ok false w := by
 simp only [Op.equalIn, Sem.run_bind, run_underlying_some hu, Result.andThen_ok]; rfl
theorem eqIn4 {P : Program} {d : Nat} {t e : TypeId} {a : Addr} {n c n2 c2 : Nat} (hu : P.underlying t = some (.slice e)) (w : World) : (Op.equalIn (d + 1) t (.slice none n2 c2) (.slice (some a) n c)).run P w = .ok false w := by
 simp only [Op.equalIn, Sem.run_bind, run_underlying_some hu, Result.andThen_ok]; rfl
theorem eqIn5 {P : Program} {d : Nat} {t : TypeId} {ps rs : Array TypeId} {vr : Bool} {f : Fn} {a b : Array Value} (hu : P.underlying t = some (.func ps rs vr)) (w : World) : (Op.equalIn (d + 1) t (.func f a b) .nilFunc).run P w = .ok false w := by
 simp only [Op.equalIn, Sem.run_bind, run_underlying_some hu, Result.andThen_ok]; rfl
def NilPair (P : Program) (t : TypeId) (x y : Value) : Prop :=
 ∀ w, (Op.equal t x y).run P w = .ok false w ∧ (∀ op ox oy, (eqGuard op t ox oy x y).run P w = .ok () w) ∧ binOp .eql t x y = (do pure (.bool (← Op.equal t x y))) ∧ binOp .neq t x y = (do pure (.bool (!(← Op.equal t x y))))
theorem nilPair1 {P : Program} {t e : TypeId} {a : Addr} (hu : P.underlying t = some (.pointer e)) : NilPair P t (.pointer (some a)) (.pointer none) := by
 intro w; refine ⟨eqIn1 (d := 9999) hu w, fun op ox oy => ?_, rfl, rfl⟩; unfold eqGuard; split <;> rfl
theorem nilPair2 {P : Program} {t e : TypeId} {a : Addr} (hu : P.underlying t = some (.pointer e)) : NilPair P t (.pointer none) (.pointer (some a)) := by
 intro w; refine ⟨eqIn2 (d := 9999) hu w, fun op ox oy => ?_, rfl, rfl⟩; unfold eqGuard; split <;> rfl
theorem nilPair3 {P : Program} {t e : TypeId} {a : Addr} {n c n2 c2 : Nat} (hu : P.underlying t = some (.slice e)) : NilPair P t (.slice (some a) n c) (.slice none n2 c2) := by
 intro w; refine ⟨eqIn3 (d := 9999) hu w, fun op ox oy => ?_, rfl, rfl⟩; unfold eqGuard; split <;> rfl
theorem nilPair4 {P : Program} {t e : TypeId} {a : Addr} {n c n2 c2 : Nat} (hu : P.underlying t = some (.slice e)) : NilPair P t (.slice none n2 c2) (.slice (some a) n c) := by
 intro w; refine ⟨eqIn4 (d := 9999) hu w, fun op ox oy => ?_, rfl, rfl⟩; unfold eqGuard; split <;> rfl
theorem nilPair5 {P : Program} {t : TypeId} {ps rs : Array TypeId} {vr : Bool} {f : Fn} {a b : Array Value} (hu : P.underlying t = some (.func ps rs vr)) : NilPair P t (.func f a b) .nilFunc := by
 intro w; refine ⟨eqIn5 (d := 9999) hu w, fun op ox oy => ?_, rfl, rfl⟩; unfold eqGuard; split <;> rfl
theorem VRel.sliceSome {ρ : Rho} {a : Addr} {n c : Nat} {x : Value} (r : VRel ρ (.slice (some a) n c) x) : ∃ a' n' c', x = .slice (some a') n' c' := by
 cases r.leaf (by simp) (by simp) with
 | plain hp => simp [leafPlain] at hp
 | slice => exact ⟨_, _, _, rfl⟩
 | sliceE => exact ⟨_, _, _, rfl⟩
theorem VRel.sliceNone {ρ : Rho} {n c : Nat} {x : Value} (r : VRel ρ (.slice none n c) x) : ∃ n' c', x = .slice none n' c' := by
 cases r.leaf (by simp) (by simp) with
 | plain hp => exact ⟨_, _, rfl⟩
theorem VRel.ptrSome {ρ : Rho} {a : Addr} {x : Value} (r : VRel ρ (.pointer (some a)) x) : ∃ a', x = .pointer (some a') := by
 cases r.leaf (by simp) (by simp) with
 | plain hp => simp [leafPlain] at hp
 | ptr => exact ⟨_, rfl⟩
theorem VRel.funcSome {ρ : Rho} {f : Fn} {a b : Array Value} {x : Value} (r : VRel ρ (.func f a b) x) : ∃ f' a' b', x = .func f' a' b' := by
 cases r.leaf (by simp) (by simp) with
 | plain hp => exact ⟨_, _, _, rfl⟩
 | func => exact ⟨_, _, _, rfl⟩
 | yld => exact ⟨_, _, _, rfl⟩
theorem VRel.funcF {ρ : Rho} {f : FuncId} {a b : Array Value} {x : Value} (r : VRel ρ (.func (.func f) a b) x) : ∃ a' b', x = .func (.func f) a' b' := by
 cases r.leaf (by simp) (by simp) with
 | plain hp => exact ⟨_, _, rfl⟩
 | func => exact ⟨_, _, rfl⟩
theorem VRel.funcY {ρ : Rho} {f : Nat} {a b : Array Value} {x : Value} (r : VRel ρ (.func (.yield f) a b) x) : ∃ I, ρ f = some I ∧ x = .func (.yield I.g) #[] #[] := by
 cases r.leaf (by simp) (by simp) with
 | plain hp => simp [leafPlain] at hp
 | yld h => exact ⟨_, h, rfl⟩
theorem aNilEq_run {P : Program} {ρ : Rho} {t : TypeId} {x y x' y' : Value} (h : aNilEq P t x y = true) (rx : VRel ρ x x') (ry : VRel ρ y y') : NilPair P t x' y' := by
 unfold aNilEq at h
 split at h
 ·
  split at h
  case h_2 => cases h
  rename_i e hu
  have := ry.eq_of_plain rfl; subst this
  obtain ⟨a', rfl⟩ := rx.ptrSome
  exact nilPair1 hu
 ·
  split at h
  case h_2 => cases h
  rename_i e hu
  have := rx.eq_of_plain rfl; subst this
  obtain ⟨a', rfl⟩ := ry.ptrSome
  exact nilPair2 hu
 ·
  split at h
  case h_2 => cases h
  rename_i e hu
  obtain ⟨_, _, rfl⟩ := ry.sliceNone
  obtain ⟨_, _, _, rfl⟩ := rx.sliceSome
  exact nilPair3 hu
 ·
  split at h
  case h_2 => cases h
  rename_i e hu
  obtain ⟨_, _, rfl⟩ := rx.sliceNone
  obtain ⟨_, _, _, rfl⟩ := ry.sliceSome
  exact nilPair4 hu
 ·
  split at h
  case h_2 => cases h
  rename_i e hu
  have := ry.eq_of_plain rfl; subst this
  obtain ⟨_, _, _, rfl⟩ := rx.funcSome
  exact nilPair5 hu
 · cases h
def aBin (P : Program) (op : BinOp) (t : TypeId) (ox oy : Operand) (x y : Value) : Option Value :=
 match qbin op x y with
 | some v => some v
 | none => match qagg P op t x y with
  | some v => some v
  | none => aBinS P op t ox oy x y
theorem aBinS_sound {P : Program} {ρ : Rho} {op : BinOp} {t : TypeId} {ox oy : Operand} {x y x' y' v : Value} (h : aBinS P op t ox oy x y = some v) (rx : VRel ρ x x') (ry : VRel ρ y y') :
  SP P ρ (do eqGuard op t ox oy x' y'; binOp op t x' y') v := by
 unfold aBinS at h
 split at h
 ·
  rename_i hp
  simp only [Bool.and_eq_true] at hp
  have := rx.eq_of_cellsPlain hp.1; subst this
  have := ry.eq_of_cellsPlain hp.2; subst this
  exact apure_sound h
 ·
  split at h
  case h_2 => cases h
  rename_i hn
  split at h
  ·
   cases h
   refine ⟨.bool false, fun w => ?_, .plain rfl⟩
   obtain ⟨h1, h2, h3, h4⟩ := aNilEq_run hn rx ry w
   simp [h1, h2, h3]
  ·
   cases h
   refine ⟨.bool true, fun w => ?_, .plain rfl⟩
   obtain ⟨h1, h2, h3, h4⟩ := aNilEq_run hn rx ry w
   simp [h1, h2, h4]
  · cases h
theorem aBin_sound {P : Program} {ρ : Rho} {op : BinOp} {t : TypeId} {ox oy : Operand} {x y x' y' v : Value} (h : aBin P op t ox oy x y = some v) (rx : VRel ρ x x') (ry : VRel ρ y y') :
  SP P ρ (do eqGuard op t ox oy x' y'; binOp op t x' y') v := by
 unfold aBin at h
 split at h
 · rename_i u hu; cases h; exact qbin_sound hu rx ry
 ·
  split at h
  · rename_i u hu; cases h; exact qagg_sound hu rx ry
  · exact aBinS_sound h rx ry
def acells : Value → Option (List Value)
 | .agg cs => some cs.toList
 | .tuple _ => none
 | v => some [v]
theorem acells_sound {ρ : Rho} {v v' : Value} {l : List Value} (h : acells v = some l) (r : VRel ρ v v') : F2 (LRel ρ) l v'.cells.toList := by
 cases r with
 | one k => cases k with
  | one k =>
   have : l = [v] ∧ v'.cells = #[v'] := by
    cases k with
    | plain hp => cases v <;> simp [acells, leafPlain] at h hp ⊢ <;> first | exact ⟨h.symm, rfl⟩ | contradiction
    | ptr => simp [acells] at h; exact ⟨h.symm, rfl⟩
    | slice => simp [acells] at h; exact ⟨h.symm, rfl⟩
    | sliceE => simp [acells] at h; exact ⟨h.symm, rfl⟩
    | func => simp [acells] at h; exact ⟨h.symm, rfl⟩
    | yld => simp [acells] at h; exact ⟨h.symm, rfl⟩
   rw [this.1, this.2]; exact .cons k .nil
  | agg k => simp only [acells, Option.some.injEq] at h; subst h; exact k
 | tuple k => cases h
def lay (l : List Value) : Nat → List Value → List Value
 | _, [] => l
 | i, v :: vs => lay (l.set i v) (i + 1) vs
theorem lay_length : ∀ (vs l : List Value) (i : Nat), (lay l i vs).length = l.length := by
 intro vs
 induction vs with
 | nil => intro l i; rfl
 | cons v vs ih => intro l i; rw [lay, ih, List.length_set]
theorem F2.lay {ρ : Rho} {vs vs' : List Value} (h : F2 (LRel ρ) vs vs') : ∀ {l l' : List Value} (i : Nat), F2 (LRel ρ) l l' → F2 (LRel ρ) (lay l i vs) (Vai.lay l' i vs') := by
 induction h with
 | nil => intro l l' i k; exact k
 | cons h t ih => intro l l' i k; exact ih (i + 1) (k.set i _ _ h)
theorem foldl_lay : ∀ (vs : List Value) (cs : Array Value) (off k : Nat), ((vs.zipIdx k).foldl (fun cs (x : Value × Nat) => cs.setIfInBounds (off + x.2) x.1) cs).toList = lay cs.toList (off + k) vs := by
 intro vs
 induction vs with
 | nil => intro cs off k; rfl
 | cons v vs ih =>
  intro cs off k
  simp only [List.zipIdx_cons, List.foldl_cons]
  rw [ih, lay]
  simp [Nat.add_assoc]
def aFill (place : Nat → Option (Nat × Nat)) (cells : List Value) : List (Nat × Value) → Option (List Value)
 | [] => some cells
 | (i, v) :: rest =>
  match place i, acells v with
  | some (off, size), some l => match Nat.beq l.length size && Nat.ble (off + size) cells.length with
   | true => aFill place (lay cells off l) rest
   | false => none
  | _, _ => none
theorem aFill_sound {ρ : Rho} {place : Nat → Option (Nat × Nat)} : ∀ (parts parts' : List (Nat × Value)) (cells l : List Value) (cells' : Array Value), aFill place cells parts = some l →
  F2 (fun p p' => p.1 = p'.1 ∧ VRel ρ p.2 p'.2) parts parts' → F2 (LRel ρ) cells cells'.toList → ∃ l', Instr.fill place cells' parts' = some l' ∧ F2 (LRel ρ) l l'.toList ∧ l.length = cells.length := by
 intro parts
 induction parts with
 | nil =>
  intro parts' cells l cells' h hp hc
  cases hp
  simp only [aFill, Option.some.injEq] at h
  subst h
  exact ⟨cells', rfl, hc, rfl⟩
 | cons p parts ih =>
  intro parts' cells l cells' h hp hc
  obtain ⟨i, v⟩ := p
  cases hp with
  | cons h0 ht =>
   rename_i p' parts'
   obtain ⟨i', v'⟩ := p'
   obtain ⟨e1, rv⟩ := h0
   simp only at e1 rv
   subst e1
   simp only [aFill] at h
   split at h
   case h_2 => cases h
   rename_i off size vl hpl hvl
   split at h
   case h_2 => cases h
   rename_i hck
   simp only [Bool.and_eq_true, Nat.ble_eq] at hck
   have hls : vl.length = size := Nat.eq_of_beq_eq_true hck.1
   have hcl := acells_sound hvl rv
   have e2 : v'.cells.size = size := by have := hcl.length; simp at this; omega
   have e3 : cells.length = cells'.size := by have := hc.length; simpa using this
   have hfold : (v'.cells.zipIdx.foldl (fun cs (x : Value × Nat) => cs.setIfInBounds (off + x.2) x.1) cells').toList = lay cells'.toList off v'.cells.toList := by
    rw [← Array.foldl_toList, Array.toList_zipIdx]
    exact foldl_lay v'.cells.toList cells' off 0
   have := ih parts' (lay cells off vl) l (v'.cells.zipIdx.foldl (fun cs (x : Value × Nat) => cs.setIfInBounds (off + x.2) x.1) cells') h ht (by rw [hfold]; exact hcl.lay off hc)
   obtain ⟨l', q1, q2, q3⟩ := this
   refine ⟨l', ?_, q2, by rw [q3, lay_length]⟩
   simp only [Instr.fill, hpl]
   rw [if_neg]
   · exact q1
   · simp; omega
end
end Go.Vai
namespace Go.Vai
noncomputable section
def SM (P : Program) (ρ : Rho) (w : World) (s : Sem Value) (v : Value) (h' : Heap) : Prop :=
 ∃ v' ρ' w', s.run P w = .ok v' w' ∧ VRel ρ' v v' ∧ HRel ρ' h' w' ∧ Grow ρ ρ' w ∧ Fr ρ w w'
theorem SP.toSM {P : Program} {ρ : Rho} {h : Heap} {w : World} {s : Sem Value} {v : Value} (k : SP P ρ s v) (H : HRel ρ h w) : SM P ρ w s v h := by
 obtain ⟨v', h1, h2⟩ := k
 exact ⟨v', ρ, w, h1 w, h2, H, .refl _ _, .refl _ _⟩
theorem Fr.alloc (ρ : Rho) (w : World) (o : Obj) : Fr ρ w (w.alloc o) :=
 ⟨rfl, rfl, rfl, by simp, fun k hk _ => by
  show (w.heap.push o)[k]? = w.heap[k]?
  rw [Array.getElem?_push, if_neg (by omega)]⟩
theorem obj_alloc {w : World} {o : Obj} {g : Nat} {r : Obj} (h : w.heap[g]? = some r) : (w.alloc o).heap[g]? = some r := by
 have hlt : g < w.heap.size := (Array.getElem?_eq_some_iff.1 h).1
 show (w.heap.push o)[g]? = _
 rw [Array.getElem?_push, if_neg (by omega)]; exact h
theorem Grow.upd {ρ : Rho} {h : Heap} {w : World} (H : HRel ρ h w) (I : Img) (hg : w.heap.size ≤ I.g ∨ ∃ b₀ I₀, ρ b₀ = some I₀ ∧ I₀.g = I.g) (hz : I.z = none) : Grow ρ (upd ρ h.next I) w :=
 ⟨H.ext_upd I, fun b J e => by
  by_cases hb : b = h.next
  · subst hb; rw [upd_same] at e; cases e; exact hg
  · rw [upd_other _ _ _ hb] at e; exact .inr ⟨b, J, e, rfl⟩, fun b J e n => by
  by_cases hb : b = h.next
  · subst hb; rw [upd_same] at e; cases e; exact absurd hz n
  · rw [upd_other _ _ _ hb] at e; exact e⟩
theorem cell?_new (w : World) (arr : Array Value) (et : TypeId) (j : Nat) : (w.alloc (.cells arr et)).cell? ⟨w.heap.size, j, none⟩ = arr[j]? := by
 simp [World.cell?, World.alloc, -World.alloc_eq]
theorem frozen?_new (w : World) (arr : Array Value) (et : TypeId) (j : Nat) : (w.alloc (.cells arr et)).frozen? ⟨w.heap.size, j, none⟩ = false := by
 simp [World.frozen?, World.alloc, -World.alloc_eq]
theorem img_old {ρ : Rho} {h : Heap} {w : World} (H : HRel ρ h w) {b : Nat} {I : Img} (e : ρ b = some I) : I.g < w.heap.size := by
 obtain ⟨B, C, d1, _⟩ := H.dom b I e
 exact (H.img b I B e d1).1
theorem tg_alloc {ρ : Rho} {h : Heap} {w : World} (H : HRel ρ h w) {o : Obj} {o' m e : Nat} {z : Option (Obj × Nat)} : (∀ k, TG k → k < w.heap.size → (w.alloc o).heap[k]? = w.heap[k]?) ∧ ¬ TG (Img.mk w.heap.size o' m e z).g :=
 ⟨fun k _ hk => by
  show (w.heap.push o)[k]? = _
  rw [Array.getElem?_push, if_neg (by omega)], fun t => Nat.lt_irrefl _ (H.nx.1.lt t)⟩
theorem new_sound {ρ : Rho} {h h' : Heap} {w : World} (H : HRel ρ h w) {cells : Tr Value} {size esz b : Nat} (e : h.new cells size esz = some (b, h')) (arr : Array Value) (et : TypeId) (hs : size ≤ arr.size)
  (hc : ∀ i v, i < size → cells.get i = some v → ∃ v', arr[i]? = some v' ∧ LRel ρ v v') :
  ∃ ρ', ρ' b = some ⟨w.heap.size, 0, arr.size, esz, none⟩ ∧ HRel ρ' h' (w.alloc (.cells arr et)) ∧ Grow ρ ρ' w ∧ Fr ρ w (w.alloc (.cells arr et)) := by
 unfold Heap.new at e
 split at e
 case h_2 => cases e
 rename_i hn
 have hn : True := trivial
 simp only [Option.some.injEq, Prod.mk.injEq] at e
 obtain ⟨rfl, rfl⟩ := e
 refine ⟨upd ρ h.next ⟨w.heap.size, 0, arr.size, esz, none⟩, upd_same _ _ _, ?_, Grow.upd H _ (.inl (Nat.le_refl _)) rfl, Fr.alloc ρ w _⟩
 have old : ∀ b J, ρ b = some J → ∀ i, (w.alloc (.cells arr et)).cell? ⟨J.g, i, none⟩ = w.cell? ⟨J.g, i, none⟩ := fun b J e i =>
  World.cell?_alloc_lt w _ _ (img_old H e)
 refine H.add cells size esz h.next h.next _ ⟨w.heap.size, 0, arr.size, esz, none⟩ (tg_alloc H) (Nat.le_refl _) (by simp) (by simp) ?_ ?_ rfl (by simpa using hs) ?_ ?_ ?_ ?_ ?_ ?_ (fun g r _ hh => obj_alloc hh) rfl (fun _ _ _ _ _ _ _ hh => obj_alloc hh)
 ·
  intro j _ hj
  exact ⟨arr[j], by rw [cell?_new]; exact Array.getElem?_eq_getElem hj⟩
 · intro j _ _; exact frozen?_new w arr et j
 ·
  intro i v hi hv
  obtain ⟨v', h1, h2⟩ := hc i v hi hv
  exact ⟨v', by rw [cell?_new, Nat.zero_add]; exact h1, h2.ext (H.ext_upd _)⟩
 ·
  intro b J e j hj
  refine ⟨fun ⟨v, hv⟩ => ⟨v, by rw [old b J e]; exact hv⟩, fun hf => ?_⟩
  rw [World.frozen?_alloc_old w _ _ (Nat.ne_of_lt (img_old H e))]; exact hf
 · intro b J B C e _ _ _ _ i _; exact old b J e _
 · intro b J B e _ hg; have := img_old H e; simp at hg; omega
 ·
  intro b J B C e hB hc' _ hm
  obtain ⟨B', C', d1, _, d3, _⟩ := H.dom b J e
  omega
 · intro b J B e _ _ hm; have := img_old H e; obtain ⟨_, _, _, _, d3, _⟩ := H.dom b J e; omega
def ptrTo (r : Option (Nat × Heap)) : Option (Value × Heap) := match r with
 | some (b, h) => some (.pointer (some ⟨b, 0, none⟩), h)
 | none => none
def short (l : List Value) : Bool := Nat.ble 0 l.length
def aBox (h : Heap) (v : Value) : Option (Value × Heap) :=
 match acells v with
 | some l => match short l with
  | true => ptrTo (h.new (trOf 0 .leaf l) l.length 0)
  | false => none
 | none => none
theorem tr_of_list {l : List Value} (hl : short l = true) {i : Nat} {v : Value} (h : (trOf 0 .leaf l).get i = some v) : l[i]? = some v := by
 rw [trOf_get l 0 .leaf i (Nat.zero_le _)] at h
 split at h
 · simpa using h
 · cases h
theorem newVar_sound {P : Program} {ρ : Rho} {h h' : Heap} {w : World} (H : HRel ρ h w) {l : List Value} {arr : Array Value} {v : Value} (elem : TypeId) (hl : short l = true)
  (e : ptrTo (h.new (trOf 0 .leaf l) l.length 0) = some (v, h')) (r : F2 (LRel ρ) l arr.toList) : SM P ρ w (do pure (.pointer (some (← newRow elem arr)))) v h' := by
 unfold ptrTo at e
 split at e
 case h_2 => cases e
 rename_i b h₁ hnew
 cases e
 have hlen : l.length = arr.size := by have := r.length; simpa using this
 obtain ⟨ρ', p1, p2, p3, p4⟩ := new_sound H hnew arr elem (by omega) (fun i v hi hv => by
  obtain ⟨v', q1, q2⟩ := r.get i v (tr_of_list hl hv)
  exact ⟨v', by simpa using q1, q2⟩)
 refine ⟨.pointer (some ⟨w.heap.size, 0, none⟩), ρ', w.alloc (.cells arr elem), ?_, ?_, p2, p3, p4⟩
 · simp [newRow]
 ·
  have := VRel.ptr (i := 0) p1
  simpa using this
theorem aBox_sound {P : Program} {ρ : Rho} {h h' : Heap} {w : World} (H : HRel ρ h w) {elem : TypeId} {x x' v : Value} (e : aBox h x = some (v, h')) (r : VRel ρ x x') : SM P ρ w (Instr.box elem x') v h' := by
 unfold aBox at e
 split at e
 case h_2 => cases e
 rename_i l hl
 split at e
 case h_2 => cases e
 rename_i hs
 exact newVar_sound (P := P) H elem hs e (acells_sound hl r)
def aZero (P : Program) (t : TypeId) : Option Value := match P.info? t with
 | some i => match i.zero with
  | some z => match cellsPlain z with
   | true => some z
   | false => none
  | none => none
 | none => none
theorem run_zero {P : Program} {t : TypeId} {z : Value} (h : aZero P t = some z) (w : World) : (zeroValue t).run P w = .ok z w := by
 unfold aZero at h
 split at h
 case h_2 => cases h
 rename_i i hi
 split at h
 case h_2 => cases h
 rename_i z' hz
 split at h
 case h_2 => cases h
 cases h
 simp only [zeroValue, Sem.run_bind, run_typeInfo_some hi, Result.andThen_ok, hz]; rfl
theorem aZero_plain {P : Program} {t : TypeId} {z : Value} (h : aZero P t = some z) : cellsPlain z = true := by
 unfold aZero at h
 split at h
 case h_2 => cases h
 split at h
 case h_2 => cases h
 split at h
 case h_2 => cases h
 rename_i hp
 cases h; exact hp
def aAlloc (P : Program) (h : Heap) (elem : TypeId) : Option (Value × Heap) :=
 match aZero P elem with
 | some z => aBox h z
 | none => none
theorem aAlloc_sound {P : Program} {ρ : Rho} {h h' : Heap} {w : World} (H : HRel ρ h w) {elem : TypeId} {v : Value} (e : aAlloc P h elem = some (v, h')) : SM P ρ w (Instr.alloc elem true (.tuple #[])) v h' := by
 unfold aAlloc at e
 split at e
 case h_2 => cases e
 rename_i z hz
 have := aBox_sound (P := P) H (elem := elem) e (.of_cellsPlain (aZero_plain hz))
 obtain ⟨v', ρ', w', h1, h2⟩ := this
 refine ⟨v', ρ', w', ?_, h2⟩
 simp only [Instr.alloc, Sem.run_bind, run_zero hz, Result.andThen_ok]
 exact h1
def zeroCellsL (z : Array Value) (n : Nat) : List Value := (List.range n).map (z[· % z.size]!)
theorem zeroCellsL_arr (z : Array Value) (n : Nat) : ((Array.range n).map (z[· % z.size]!)).toList = zeroCellsL z n := by
 simp [zeroCellsL]
theorem zeroCellsL_plain {z : Array Value} (hz : z.toList.all leafPlain = true) {n : Nat} (hn : n = 0 ∨ 0 < z.size) {ρ : Rho} : F2 (LRel ρ) (zeroCellsL z n) (zeroCellsL z n) := by
 refine F2.refl _ fun a ha => ?_
 simp only [zeroCellsL, List.mem_map, List.mem_range] at ha
 obtain ⟨i, hi, rfl⟩ := ha
 have hzs : 0 < z.size := by omega
 have hlt : i % z.size < z.size := Nat.mod_lt _ hzs
 refine .plain ?_
 rw [getElem!_pos z _ hlt]
 exact List.all_eq_true.1 hz _ (by simp)
def sliceOf (n c : Nat) (r : Option (Nat × Heap)) : Option (Value × Heap) := match r with
 | some (b, h) => some (.slice (some ⟨b, 0, none⟩) n c, h)
 | none => none
theorem cellsAll_of {z : Value} (h : cellsPlain z = true) : z.cells.toList.all leafPlain = true := by
 cases z <;> first | exact h | (simp [cellsPlain, Value.cells] at h ⊢; exact h) | (simp [cellsPlain, leafPlain] at h)
def aBuildSlice (P : Program) (h : Heap) (t : TypeId) (len : Nat) (parts : List (Nat × Value)) : Option (Value × Heap) :=
 match P.underlying t with
 | some (.slice elem) => match sz P elem, aZero P elem with
  | some size, some z =>
   match Nat.ble (len * size) 16777216 && Nat.beq z.cells.size size && Nat.blt 0 size with
   | true => match aFill (fun i => some (i * size, size)) (zeroCellsL z.cells (len * size)) parts with
    | some l => sliceOf len len (h.new (trOf 0 .leaf l) (len * size) size)
    | none => none
   | false => none
  | _, _ => none
 | _ => none
theorem sliceNew_sound {P : Program} {ρ : Rho} {h h' : Heap} {w : World} (H : HRel ρ h w) {l : List Value} {arr : Array Value} {v : Value} {n c size : Nat} (elem : TypeId) (hl : short l = true) (hlen : l.length = c * size) (hnc : n ≤ c)
  (e : sliceOf n c (h.new (trOf 0 .leaf l) (c * size) size) = some (v, h')) (r : F2 (LRel ρ) l arr.toList) : SM P ρ w (do pure (.slice (some (← newRow elem arr)) n c)) v h' := by
 unfold sliceOf at e
 split at e
 case h_2 => cases e
 rename_i b h₁ hnew
 cases e
 have hlen2 : l.length = arr.size := by have := r.length; simpa using this
 obtain ⟨ρ', p1, p2, p3, p4⟩ := new_sound H hnew arr elem (by omega) (fun i v hi hv => by
  obtain ⟨v', q1, q2⟩ := r.get i v (tr_of_list hl hv)
  exact ⟨v', by simpa using q1, q2⟩)
 refine ⟨.slice (some ⟨w.heap.size, 0, none⟩) n c, ρ', w.alloc (.cells arr elem), ?_, ?_, p2, p3, p4⟩
 · simp [newRow]
 ·
  have : LRel ρ' (.slice (some ⟨b, 0, none⟩) n c) (.slice (some ⟨w.heap.size, 0 + 0, none⟩) n c) := LRel.slice p1 hnc (Nat.le_refl _) (by simp; omega)
  exact .one (.one this)
theorem aBuildSlice_sound {P : Program} {ρ : Rho} {h h' : Heap} {w : World} (H : HRel ρ h w) {t : TypeId} {len : Nat} {parts : List (Nat × Value)} {parts' : Array (Nat × Value)} {v : Value}
  (e : aBuildSlice P h t len parts = some (v, h')) (r : F2 (fun p p' => p.1 = p'.1 ∧ VRel ρ p.2 p'.2) parts parts'.toList) : SM P ρ w (Instr.buildSlice t len parts') v h' := by
 unfold aBuildSlice at e
 split at e
 case h_2 => cases e
 rename_i elem hu
 split at e
 case h_2 => cases e
 rename_i size z hs hz
 split at e
 case h_2 => cases e
 rename_i hck
 simp only [Bool.and_eq_true, Nat.ble_eq, Nat.blt_eq] at hck
 obtain ⟨⟨hk1, hk2⟩, hk3⟩ := hck
 have hk2 : z.cells.size = size := Nat.eq_of_beq_eq_true hk2
 split at e
 case h_2 => cases e
 rename_i l hf
 have hzc := zeroCellsL_plain (ρ := ρ) (cellsAll_of (aZero_plain hz)) (n := len * size) (.inr (by omega))
 rw [← zeroCellsL_arr] at hzc
 obtain ⟨l', q1, q2, q3⟩ := aFill_sound parts parts'.toList _ l ((Array.range (len * size)).map (z.cells[· % z.cells.size]!)) hf r (by
  have := hzc; rw [zeroCellsL_arr] at this ⊢; exact this)
 have hll : l.length = len * size := by rw [q3]; simp [zeroCellsL]
 obtain ⟨v', ρ', w', h1, h2⟩ := sliceNew_sound (P := P) H elem (l := l) (arr := l') (by simp [short]) hll (Nat.le_refl len) e q2
 refine ⟨v', ρ', w', ?_, h2⟩
 simp only [Instr.buildSlice, Sem.run_bind, run_underlying_some hu, run_sz hs, Result.andThen_ok]
 rw [if_neg (by omega)]
 by_cases h0 : len * size = 0
 ·
  have e0 : len = 0 := by
   rcases Nat.mul_eq_zero.1 h0 with h | h
   · exact h
   · omega
  simp only [h0, if_true, Sem.run_pure, Result.andThen_ok, Sem.run_bind]
  have q1' : Instr.fill (fun i => some (i * size, size)) ((Array.range 0).map ((#[] : Array Value)[· % (#[] : Array Value).size]!)) parts'.toList = some l' := by
   have ea : ∀ f : Nat → Value, (Array.range 0).map f = #[] := fun f => Array.toList_inj.1 (by simp)
   rw [← q1, h0, ea, ea]
  rw [q1']
  exact h1
 ·
  simp only [h0, if_false, Sem.run_bind, run_zero hz, Sem.run_pure, Result.andThen_ok]
  rw [q1]
  exact h1
def aMakeSlice (P : Program) (h : Heap) (t : TypeId) (len cap : Value) : Option (Value × Heap) :=
 match P.underlying t with
 | some (.slice elem) => match sz P elem, aZero P elem, P.info? elem with
  | some size, some z, some i => match len, cap with
   | .int _ l, .int _ c =>
    match decide (0 ≤ l) && decide (l ≤ c) && decide (c * i.bytes ≤ 281474976710656) && Nat.ble (c.toNat * size) 100000000 && Nat.beq z.cells.size size && Nat.blt 0 size && decide (c ≤ 1000000000) with
    | true => sliceOf l.toNat c.toNat (h.new (trOf 0 .leaf (zeroCellsL z.cells (c.toNat * size))) (c.toNat * size) size)
    | false => none
   | _, _ => none
  | _, _, _ => none
 | _ => none
theorem wrap_id {n : Int} (h0 : 0 ≤ n) (h1 : n ≤ 1000000000) : IntKind.i64.wrap n = n := by
 unfold IntKind.wrap
 simp [IntKind.bits, IntKind.signed]
 omega
theorem aMakeSlice_sound {P : Program} {ρ : Rho} {h h' : Heap} {w : World} (H : HRel ρ h w) {t : TypeId} {len cap len' cap' : Value} {v : Value}
  (e : aMakeSlice P h t len cap = some (v, h')) (rl : VRel ρ len len') (rc : VRel ρ cap cap') : SM P ρ w (Instr.makeSlice t len' cap') v h' := by
 unfold aMakeSlice at e
 split at e
 case h_2 => cases e
 rename_i elem hu
 split at e
 case h_2 => cases e
 rename_i size z i hs hz hi
 split at e
 case h_2 => cases e
 rename_i k l k' c
 split at e
 case h_2 => cases e
 rename_i hck
 simp only [Bool.and_eq_true, Nat.ble_eq, Nat.blt_eq, decide_eq_true_eq] at hck
 obtain ⟨⟨⟨⟨⟨⟨k1, k2⟩, k3⟩, k4⟩, k5⟩, k6⟩, k7⟩ := hck
 have k5 : z.cells.size = size := Nat.eq_of_beq_eq_true k5
 have := rl.eq_of_plain rfl; subst this
 have := rc.eq_of_plain rfl; subst this
 have hzc := zeroCellsL_plain (ρ := ρ) (cellsAll_of (aZero_plain hz)) (n := c.toNat * size) (.inr (by omega))
 have wl : IntKind.i64.wrap l = l := wrap_id k1 (by omega)
 have wc : IntKind.i64.wrap c = c := wrap_id (by omega) k7
 have hbm : ¬ (281474976710656 < (i.bytes : Int) * c) := by rw [Int.mul_comm]; omega
 by_cases h0 : c.toNat * size = 0
 ·
  obtain ⟨v', ρ', w', h1, h2⟩ := sliceNew_sound (P := P) H elem (l := zeroCellsL z.cells (c.toNat * size)) (arr := (Array.range (c.toNat * size)).map ((#[] : Array Value)[· % (#[] : Array Value).size]!)) (by simp [short]) (by simp [zeroCellsL]) (show l.toNat ≤ c.toNat by omega) e (by
   rw [h0]; simp [zeroCellsL]; exact .nil)
  refine ⟨v', ρ', w', ?_, h2⟩
  simp only [Instr.makeSlice, Sem.run_bind, run_underlying_some hu, run_sz hs, Result.andThen_ok, asInt, asIntOf, Sem.run_pure, run_typeInfo_some hi, wl, wc]
  rw [if_neg (by simp; omega)]
  simp only [Sem.run_bind, run_askRoom, Result.andThen_ok, run_sz hs, if_pos h0, Sem.run_pure]
  exact h1
 ·
  obtain ⟨v', ρ', w', h1, h2⟩ := sliceNew_sound (P := P) H elem (l := zeroCellsL z.cells (c.toNat * size)) (arr := (Array.range (c.toNat * size)).map (z.cells[· % z.cells.size]!)) (by simp [short]) (by simp [zeroCellsL]) (show l.toNat ≤ c.toNat by omega) e (by
   rw [zeroCellsL_arr]; exact hzc)
  refine ⟨v', ρ', w', ?_, h2⟩
  simp only [Instr.makeSlice, Sem.run_bind, run_underlying_some hu, run_sz hs, Result.andThen_ok, asInt, asIntOf, Sem.run_pure, run_typeInfo_some hi, wl, wc]
  rw [if_neg (by simp; omega)]
  simp only [Sem.run_bind, run_askRoom, Result.andThen_ok, run_sz hs, if_neg h0, run_zero hz, Sem.run_pure]
  exact h1
def aLoad (P : Program) (h : Heap) (t : TypeId) (a : Value) : Option Value :=
 match a with
 | .pointer (some ⟨b, i, none⟩) => match isAggB P t with
  | some true => match sz P t with
   | some n => match h.rdL b i n with
    | some l => some (.agg l.toArray)
    | none => none
   | none => none
  | some false => h.rd b i
  | none => none
 | _ => none
theorem aLoad_sound {P : Program} {ρ : Rho} {h : Heap} {w : World} (H : HRel ρ h w) {t : TypeId} {a a' v : Value} (e : aLoad P h t a = some v) (r : VRel ρ a a') : ∃ v', (Instr.loadAt t a').run P w = .ok v' w ∧ VRel ρ v v' := by
 unfold aLoad at e
 split at e
 case h_2 => cases e
 rename_i b i
 obtain ⟨I, hb, rfl⟩ := r.ptr_inv
 split at e
 ·
  rename_i ha
  split at e
  case h_2 => cases e
  rename_i n hn
  split at e
  case h_2 => cases e
  rename_i l hl
  cases e
  obtain ⟨vs', q1, q2, q3⟩ := rdL_sound H hb n i l hl
  refine ⟨.agg vs'.toArray, ?_, .one (.agg q3)⟩
  have := run_loadCells (P := P) (w := w) (g := I.g) (o := I.o + i) (vs := vs') q2
  rw [q1] at this
  simp [Instr.loadAt, Instr.sureAddr, loadVar, run_isAgg_some ha, run_sz hn, this]
 ·
  rename_i ha
  obtain ⟨v', q1, q2⟩ := rd_sound H e hb
  exact ⟨v', by simp [Instr.loadAt, Instr.sureAddr, loadVar, run_isAgg_some ha, q1], .one (.one q2)⟩
 · cases e
def aStore (P : Program) (h : Heap) (t : TypeId) (a x : Value) : Option Heap :=
 match a with
 | .pointer (some ⟨b, i, none⟩) => match acells x, sz P t with
  | some l, some n => match Nat.beq l.length n with
   | true => h.wrL b i l
   | false => none
  | _, _ => none
 | _ => none
theorem aStore_sound {P : Program} {ρ : Rho} {h h' : Heap} {w : World} (H : HRel ρ h w) {t : TypeId} {a a' x x' : Value} (e : aStore P h t a x = some h') (r : VRel ρ a a') (rx : VRel ρ x x') :
  ∃ w', (Instr.storeAt t a' x').run P w = .ok () w' ∧ HRel ρ h' w' ∧ Fr ρ w w' := by
 unfold aStore at e
 split at e
 case h_2 => cases e
 rename_i b i
 obtain ⟨I, hb, rfl⟩ := r.ptr_inv
 split at e
 case h_2 => cases e
 rename_i l n hl hn
 split at e
 case h_2 => cases e
 rename_i hle
 have hle : l.length = n := Nat.eq_of_beq_eq_true hle
 have hcl := acells_sound hl rx
 obtain ⟨p1, p2⟩ := wrL_sound hb l x'.cells.toList h h' w i H e hcl
 refine ⟨_, ?_, p1, setN_fr hb _ _⟩
 have hsz : x'.cells.size = n := by have := hcl.length; simp at this; omega
 simp only [Instr.storeAt, Instr.sureAddr, storeVar, Sem.run_bind, Sem.run_pure, Result.andThen_ok, run_sz hn]
 rw [if_neg (by simp [hsz])]
 exact run_storeCells (P := P) I.g (I.o + i) x'.cells.toList w 0 hcl.oneC (by simpa using p2)
end
end Go.Vai

/-
  What is proved here: one operation of a plain interpreter of Go code, whatever it is, is matched by the machine's (part H). Condition: the functions that it calls are matched.
-/
import Derived.Test.YtiebldaihnbkmaaGreatDoorVG
import Derived.Orders
set_option linter.unusedVariables false
set_option linter.unusedSimpArgs false
namespace Go.Vai

/-! ### Strings and bytes -/
def u8s : List Value → Option (List Int)
  | [] => some []
  | .int .u8 n :: vs => match u8s vs with
    | some l => some (n :: l)
    | none => none
  | _ => none
theorem u8s_eq : ∀ (vs : List Value) (l : List Int), u8s vs = some l → vs = l.map (Value.int .u8) := by
  intro vs
  induction vs with
  | nil => intro l h; simp only [u8s, Option.some.injEq] at h; subst h; rfl
  | cons v vs ih =>
    intro l h
    unfold u8s at h
    split at h
    · rename_i heq; cases heq
    · rename_i n vs' heq
      cases heq
      split at h
      · rename_i l' hl
        cases h
        rw [ih l' hl]; rfl
      · cases h
    · cases h
def strBytes (s : ByteArray) : List Value := s.data.toList.map fun b => Value.int .u8 b.toNat
def aConvert (P : Program) (h : Heap) (src dst : TypeId) (x : Value) : Option (Value × Heap) :=
  match x with
  | .slice (some ⟨b, i, none⟩) n _ => match P.underlying src, P.underlying dst with
    | some (.slice e), some .string => match P.underlying e with
      | some (.int .u8) => match h.rdL b i n with
        | some l => match u8s l with
          | some xs => some (.string (strOfNums xs), h)
          | none => none
        | none => none
      | _ => none
    | _, _ => none
  | .string s => match P.underlying src, P.underlying dst with
    | some _, some (.slice e) => match P.underlying e with
      | some (.int .u8) => match short (strBytes s) with
        | true => sliceOf s.size s.size (h.new (trOf 0 .leaf (strBytes s)) s.size 1)
        | false => none
      | _ => none
    | some _, some _ => match apure P (convert src dst (.string s)) with
      | some v => some (v, h)
      | none => none
    | _, _ => none
  | x => match cellsPlain x with
    | true => match apure P (convert src dst x) with
      | some v => some (v, h)
      | none => none
    | false => none

theorem apureM_sound {P : Program} {ρ : Rho} {h h' : Heap} {w : World} (H : HRel ρ h w) {s : Sem Value} {v : Value} (e : (match apure P s with | some v => some (v, h) | none => none) = some (v, h')) : SM P ρ w s v h' := by
  split at e
  · rename_i u hu
    cases e
    exact (apure_sound hu).toSM H
  · cases e

theorem bytesWorld_rel {ρ : Rho} {h h' : Heap} {w : World} {s : ByteArray} {e : TypeId} (H : HRel ρ h' (w.drew.alloc (.cells (Lib.bytesCells w e s) e))) : HRel ρ h' (Lib.bytesWorld w e s) := by
  refine H.world (by rw [Lib.bytesWorld_size]; simp) ?_ ?_
  · intro b I hb j hj
    obtain ⟨B, C, d1, _⟩ := H.dom b I hb
    obtain ⟨k1, k2, _⟩ := H.img b I B hb d1
    have hlt : I.g < w.heap.size + 1 := by simpa using k1
    by_cases hg : I.g = w.heap.size
    · have : (w.drew.alloc (.cells (Lib.bytesCells w e s) e)).cell? ⟨I.g, j, none⟩ = (Lib.bytesCells w e s)[j]? := by
        rw [hg]; exact cell?_new w.drew _ e j
      rw [this, hg]
      simp [World.cell?, Lib.bytesWorld_at_new]
    · rw [Lib.bytesWorld_old w e s _ (by simp; omega)]
      exact (World.cell?_alloc_lt w.drew _ _ (by simp; omega)).symm
  · intro b I hb j hj hf
    obtain ⟨B, C, d1, _⟩ := H.dom b I hb
    obtain ⟨k1, k2, _⟩ := H.img b I B hb d1
    have hlt : I.g < w.heap.size + 1 := by simpa using k1
    by_cases hg : I.g = w.heap.size
    · obtain ⟨v, hv⟩ := k2 j hj
      rw [hg] at hv
      have hv : (Lib.bytesCells w e s)[j]? = some v := by rw [← hv]; exact (cell?_new w.drew _ e j).symm
      have hjs : j < (Lib.bytesCells w e s).size := by
        rcases Nat.lt_or_ge j (Lib.bytesCells w e s).size with hh | hh
        · exact hh
        · rw [Array.getElem?_eq_none hh] at hv; cases hv
      rw [hg]
      simp [World.frozen?, Lib.bytesWorld_at_new]
      omega
    · have : (Lib.bytesWorld w e s).frozen? ⟨I.g, j, none⟩ = w.frozen? ⟨I.g, j, none⟩ := by
        simp only [World.frozen?]
        rw [Lib.bytesWorld_at_old w e s I.g (by omega)]
      rw [this]
      rw [World.frozen?_alloc_old w.drew _ _ (by simp; omega)] at hf
      simpa using hf

theorem aConvert_sound {P : Program} {ρ : Rho} {h h' : Heap} {w : World} (H : HRel ρ h w) {src dst : TypeId} {x x' v : Value} (e : aConvert P h src dst x = some (v, h')) (r : VRel ρ x x') : SM P ρ w (convert src dst x') v h' := by
  unfold aConvert at e
  split at e
  · rename_i b i n c
    split at e
    case h_2 => cases e
    rename_i el hs hd
    split at e
    case h_2 => cases e
    rename_i he
    split at e
    case h_2 => cases e
    rename_i l hl
    split at e
    case h_2 => cases e
    rename_i xs hxs
    cases e
    have hlx := u8s_eq _ _ hxs
    rcases r.slice_inv with ⟨I, c', hb, rfl, _⟩ | ⟨rfl, rfl, a', rfl⟩
    · obtain ⟨vs', q1, q2, q3⟩ := rdL_sound H hb _ _ _ hl
      have hvs : vs' = xs.map (Value.int .u8) := by
        rw [← hlx]; exact q3.eq_of_plain (by rw [hlx]; simp [leafPlain])
      refine ⟨_, ρ, w, run_convert_bytes_arg w src el hs he I.g (I.o + i) n c' xs (by rw [hvs] at q1; simpa using q1) (fun j hj => ?_) dst hd, .plain rfl, H, .refl _ _, .refl _ _⟩
      refine q2 j _ ?_
      rw [hvs] at q1 ⊢
      simp at q1
      simp [List.getD, List.getElem?_eq_getElem (show j < xs.length by omega)]
    · have : l = [] := by have := rdL_length _ _ _ hl; simpa using this
      subst this
      simp [u8s] at hxs
      subst hxs
      refine ⟨.string (strOfNums []), ρ, w, ?_, .plain rfl, H, .refl _ _, .refl _ _⟩
      obtain ⟨ab, ao, asp⟩ := a'
      have hlc : (loadCells ⟨ab, ao, asp⟩ 0).run P w = .ok (([] : List Int).map (Value.int .u8)).toArray w := rfl
      rw [run_convert_bytes_string w src dst el _ 0 0 hs he hd, run_bytesToString w _ 0 0 [] hlc]
      rfl
  · rename_i s
    have := r.eq_of_plain rfl; subst this
    split at e
    · rename_i us el hs hd
      split at e
      case h_2 => cases e
      rename_i he
      split at e
      case h_2 => cases e
      rename_i hsh
      unfold sliceOf at e
      split at e
      case h_2 => cases e
      rename_i id h₁ hnw
      cases e
      have hge := grownCap_ge w s.size 0 el
      have hsz : (Lib.bytesCells w el s).size = s.size + (grownCap w s.size 0 el - s.size) := by simp [Lib.bytesCells]
      obtain ⟨ρ', p1, p2, p3, p4⟩ := new_sound H.drew hnw (Lib.bytesCells w el s) el (by omega) (fun j u hj hu => by
        have hu := tr_of_list hsh hu
        refine ⟨u, ?_, .plain ?_⟩
        · simp only [strBytes, List.getElem?_map] at hu
          have hj' : j < s.data.size := hj
          simp only [Lib.bytesCells]
          rw [Array.getElem?_append_left (by simpa using hj')]
          simpa using hu
        · simp only [strBytes, List.getElem?_map, Option.map_eq_some_iff] at hu
          obtain ⟨z, _, rfl⟩ := hu
          rfl)
      refine ⟨.slice (some ⟨w.heap.size, 0, none⟩) s.size (grownCap w s.size 0 el), ρ', Lib.bytesWorld w el s, Lib.run_convert_string_bytes w src dst el s hs hd he, ?_, bytesWorld_rel (h := h) p2, p3.undrew, ?_⟩
      · have hx : LRel ρ' (.slice (some ⟨id, 0, none⟩) s.size s.size) (.slice (some ⟨w.drew.heap.size, 0 + 0, none⟩) s.size (grownCap w s.size 0 el)) := by
          refine LRel.slice p1 (Nat.le_refl _) hge ?_
          simp only [hsz]; omega
        exact .one (.one hx)
      · refine ⟨?_, ?_, ?_, by rw [Lib.bytesWorld_size]; omega, fun k hk _ => Lib.bytesWorld_at_old w el s k hk⟩ <;>
          (unfold Lib.bytesWorld World.freeze; split <;> rfl)
    · exact apureM_sound H e
    · cases e
  · split at e
    · rename_i hp
      have := r.eq_of_cellsPlain hp; subst this
      exact apureM_sound H e
    · cases e

/-! ### Operands -/
def aev (h : Heap) (tm : Tr Value) : Operand → Option Value
  | .tmp t => some ((tm.get t).getD undef)
  | .const v => match cellsPlain v with
    | true => some v
    | false => none
  | .global g => match h.blks.get g with
    | some B => match B.ro with
      | true => some (.pointer (some ⟨g, 0, none⟩))
      | false => none
    | none => none
  | .func f => some (.func (.func f) #[] #[])
def aevL (h : Heap) (tm : Tr Value) : List Operand → Option (List Value)
  | [] => some []
  | x :: xs => match aev h tm x, aevL h tm xs with
    | some v, some vs => some (v :: vs)
    | _, _ => none
def TRel (ρ : Rho) (tm : Tr Value) (tmps : Array Value) : Prop := ∀ t, VRel ρ ((tm.get t).getD undef) (tmps.getD t undef)
theorem TRel.ext {ρ ρ' : Rho} {tm : Tr Value} {tmps : Array Value} (h : TRel ρ tm tmps) (e : Ext ρ ρ') : TRel ρ' tm tmps := fun t => (h t).ext e
theorem aev_sound {ρ : Rho} {h : Heap} {w : World} (H : HRel ρ h w) {tm : Tr Value} {a : Act} (T : TRel ρ tm a.tmps) {x : Operand} {v : Value} (e : aev h tm x = some v) : VRel ρ v (a.eval x) := by
  cases x with
  | tmp t => simp only [aev, Option.some.injEq] at e; subst e; exact T t
  | const u =>
    simp only [aev] at e
    split at e
    · rename_i hp; cases e; exact .of_cellsPlain hp
    · cases e
  | global g =>
    simp only [aev] at e
    split at e
    · rename_i B hB
      split at e
      · rename_i hr
        cases e
        obtain ⟨I, h1, h2, h3⟩ := H.glob g B hB hr
        have := VRel.ptr (i := 0) h1
        rw [h2, h3] at this
        exact this
      · cases e
    · cases e
  | func f => simp only [aev, Option.some.injEq] at e; subst e; exact .plain rfl
theorem aevL_sound {ρ : Rho} {h : Heap} {w : World} (H : HRel ρ h w) {tm : Tr Value} {a : Act} (T : TRel ρ tm a.tmps) : ∀ {xs : List Operand} {vs : List Value}, aevL h tm xs = some vs → F2 (VRel ρ) vs (xs.map a.eval) := by
  intro xs
  induction xs with
  | nil => intro vs e; simp only [aevL, Option.some.injEq] at e; subst e; exact .nil
  | cons x xs ih =>
    intro vs e
    simp only [aevL] at e
    split at e
    · rename_i v us h1 h2
      cases e
      exact .cons (aev_sound H T h1) (ih h2)
    · cases e
def aevO (h : Heap) (tm : Tr Value) : Option Operand → Option (Option Value)
  | none => some none
  | some x => match aev h tm x with
    | some v => some (some v)
    | none => none
theorem aevO_sound {ρ : Rho} {h : Heap} {w : World} (H : HRel ρ h w) {tm : Tr Value} {a : Act} (T : TRel ρ tm a.tmps) {x : Option Operand} {v : Option Value} (e : aevO h tm x = some v) : ORel ρ v (x.map a.eval) := by
  cases x with
  | none => simp only [aevO, Option.some.injEq] at e; subst e; trivial
  | some x =>
    simp only [aevO] at e
    split at e
    · rename_i u hu; cases e; exact aev_sound H T hu
    · cases e
def aevP (h : Heap) (tm : Tr Value) : List (Nat × Operand) → Option (List (Nat × Value))
  | [] => some []
  | (i, x) :: xs => match aev h tm x, aevP h tm xs with
    | some v, some vs => some ((i, v) :: vs)
    | _, _ => none
theorem aevP_sound {ρ : Rho} {h : Heap} {w : World} (H : HRel ρ h w) {tm : Tr Value} {a : Act} (T : TRel ρ tm a.tmps) : ∀ {xs : List (Nat × Operand)} {vs : List (Nat × Value)}, aevP h tm xs = some vs →
    F2 (fun p p' => p.1 = p'.1 ∧ VRel ρ p.2 p'.2) vs (xs.map fun (i, x) => (i, a.eval x)) := by
  intro xs
  induction xs with
  | nil => intro vs e; simp only [aevP, Option.some.injEq] at e; subst e; exact .nil
  | cons p xs ih =>
    obtain ⟨i, x⟩ := p
    intro vs e
    simp only [aevP] at e
    split at e
    · rename_i v us h1 h2
      cases e
      exact .cons ⟨rfl, aev_sound H T h1⟩ (ih h2)
    · cases e

/-! ### One operation -/
def withH (h : Heap) : Option Value → Option (Value × Heap)
  | some v => some (v, h)
  | none => none
def isPR (v : Value) : Bool := leafPlain v || (match v with | .pointer (some ⟨_, _, none⟩) => true | _ => false)
abbrev CallFn := FuncId → List Value → Heap → Option (Value × Heap)

def aBuild (P : Program) (t : TypeId) (parts : List (Nat × Value)) : Option Value :=
  match aZero P t with
  | some z => match P.underlying t with
    | some (.struct fields) => match fields.toList.mapM (fun f => (sz P f.type).map fun n => (f.offset, n)) with
      | some places => match aFill (places.toArray[·]?) z.cells.toList parts with
        | some l => some (.agg l.toArray)
        | none => none
      | none => none
    | some (.array _ elem) => match sz P elem with
      | some size => match aFill (fun i => some (i * size, size)) z.cells.toList parts with
        | some l => some (.agg l.toArray)
        | none => none
      | none => none
    | _ => none
  | none => none
def aLen (P : Program) (argTypes : Array TypeId) (ty : TypeId) (x : Value) : Option Value :=
  match argTypes[0]? with
  | some t => match P.underlying t, x with
    | some (.slice _), .slice _ n _ => some (.int .i64 n)
    | some .string, .string s => some (.int .i64 s.size)
    | some (.array n _), _ => some (.int .i64 n)
    | _, _ => none
  | none => none
def stepOp (P : Program) (call : CallFn) (o : Oper) (tm : Tr Value) (h : Heap) : Option (Value × Heap) :=
  match o.op with
  | .move x => withH h (aev h tm x)
  | .assign x => withH h (aev h tm x)
  | .pick c a b => match aev h tm c with
    | some (.bool true) => withH h (aev h tm a)
    | some (.bool false) => withH h (aev h tm b)
    | _ => none
  | .alloc elem => aAlloc P h elem
  | .box _ x => match aev h tm x with
    | some v => aBox h v
    | none => none
  | .build t parts => match aevP h tm parts.toList with
    | some ps => withH h (aBuild P t ps)
    | none => none
  | .buildSlice t len parts => match aevP h tm parts.toList with
    | some ps => aBuildSlice P h t len ps
    | none => none
  | .load t a => match aev h tm a with
    | some v => withH h (aLoad P h t v)
    | none => none
  | .store t a x => match aev h tm a, aev h tm x with
    | some va, some vx => match aStore P h t va vx with
      | some h' => some (undef, h')
      | none => none
    | _, _ => none
  | .nilCheck x => match aev h tm x with
    | some (.pointer (some ⟨b, i, none⟩)) => some (.pointer (some ⟨b, i, none⟩), h)
    | some (.func (.func f) fi ca) => some (.func (.func f) fi ca, h)
    | _ => none
  | .binOp op t x y _ => match aev h tm x, aev h tm y with
    | some vx, some vy => withH h (aBin P op t x y vx vy)
    | _, _ => none
  | .unOp op _ x => match aev h tm x with
    | some v => match cellsPlain v with
      | true => withH h (apure P (Op.unary op v))
      | false => none
    | none => none
  | .convert s d x => match aev h tm x with
    | some v => aConvert P h s d v
    | none => none
  | .makeInterface t x => match aev h tm x with
    | some v => match cellsPlain v with
      | true => withH h (apure P (Instr.makeInterface t v))
      | false => none
    | none => none
  | .makeFunc fn fi ca => match aevL h tm fi.toList, aevL h tm ca.toList with
    | some a, some b => match a.all isPR && b.all isPR with
      | true => some (.func fn a.toArray b.toArray, h)
      | false => none
    | _, _ => none
  | .makeSlice t l c => match aev h tm l, aev h tm c with
    | some vl, some vc => aMakeSlice P h t vl vc
    | _, _ => none
  | .slice t x lo hi mx => match aev h tm x, aevO h tm lo, aevO h tm hi, aevO h tm mx with
    | some v, some l, some u, some m => withH h (aSlice P h t v l u m)
    | _, _, _, _ => none
  | .fieldAddr t x f => match aev h tm x with
    | some v => withH h (aFieldAddr P t v f)
    | none => none
  | .field t x f => match aev h tm x with
    | some v => withH h (aField P t v f)
    | none => none
  | .indexAddr t x i => match aev h tm x, aev h tm i with
    | some v, some j => withH h (aIndexAddr P t v j)
    | _, _ => none
  | .index t x i => match aev h tm x, aev h tm i with
    | some v, some j => withH h (aIndex P t v j)
    | _, _ => none
  | .extract x i => match aev h tm x with
    | some v => withH h (aExtract v i)
    | none => none
  | .call c => match c.callee with
    | .builtin .append => match aevL h tm c.args.toList with
      | some [s, x] => aAppend P h c.argTypes s x
      | _ => none
    | .builtin .len => match aevL h tm c.args.toList with
      | some [x] => withH h (aLen P c.argTypes o.type x)
      | _ => none
    | .builtin .min => match aevL h tm c.args.toList with
      | some l => match l.all cellsPlain with
        | true => withH h (apure P (Builtin.min_ c.argTypes o.type l.toArray))
        | false => none
      | _ => none
    | .builtin .max => match aevL h tm c.args.toList with
      | some l => match l.all cellsPlain with
        | true => withH h (apure P (Builtin.max_ c.argTypes o.type l.toArray))
        | false => none
      | _ => none
    | .value f => match aev h tm f, aevL h tm c.args.toList with
      | some (.func (.func g) fi ca), some l => match P.funcs[g]? with
        | some fn => match fn.name == "runtime.NumGoroutine" with
          | true => none
          | false => match fn.body with
            | some _ => call g (fi.toList ++ l ++ ca.toList) h
            | none => match (fi.toList ++ l ++ ca.toList).all cellsPlain with
              | true => match prun P (callFunc g (fi.toList ++ l ++ ca.toList).toArray) with
                | some (.value v) => match cellsPlain v with
                  | true => some (v, h)
                  | false => none
                | _ => none
              | false => none
        | none => none
      | _, _ => none
    | _ => none
  | _ => none

/-- What is asked of the functions that are called. -/
def CallOk (P : Program) (call : CallFn) : Prop :=
  ∀ f args h v h', call f args h = some (v, h') → ∀ ρ w (args' : Array Value), HRel ρ h w → F2 (VRel ρ) args args'.toList →
    Calls P f args' w fun e w' => ∃ v' ρ', e = .returned v' ∧ VRel ρ' v v' ∧ HRel ρ' h' w' ∧ Grow ρ ρ' w ∧ Fr ρ w w'

end Go.Vai

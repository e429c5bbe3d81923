/-
  What is proved here: single operations over plain data and a table of objects, as a function that the kernel can carry out, are what the machine's operations are (part RC). No conditions.
-/
import Derived.Test.YtfcadnhoejlgoaaGreatDoorRA
set_option linter.unusedVariables false
set_option linter.unusedSimpArgs false
namespace Go.Vai
noncomputable section
def dLeaf (v : Value) : D := match v with
 | .int k z => .int k z
 | .bool b => .bool b
 | .string s => .str s
 | v => .lit v
def dOf (v : Value) : D := match v with
 | .agg cs => .agg (cs.toList.map dLeaf)
 | v => dLeaf v
def leafs : D → Option (List D)
 | .agg cs => some cs
 | .tup _ => none
 | .any => none
 | .cmp => none
 | d => some [d]
def tval : D → Option Value
 | .bool b => some (.bool b)
 | .int k z => some (.int k z)
 | .str s => some (.string s)
 | .lit v => some v
 | _ => none
theorem oneV_plain {v : Value} (h : leafPlain v = true) : oneV v = true := by
 cases v <;> first | rfl | cases h
section
variable {M : Nat → Prop} {g : Gh} {a : AH}
theorem dLeaf_ok {v : Value} (h : leafPlain v = true) : DL M g a (dLeaf v) v := by
 cases v <;> first | exact CR.int | exact CR.bool | exact CR.str | exact CR.lit (oneV_plain h)
theorem dLeaf_D1 {v : Value} (h : leafPlain v = true) : DR M g a (dLeaf v) v := (dLeaf_ok h).dr
theorem dLeafs_ok : ∀ {l : List Value}, l.all leafPlain = true → F2 (DL M g a) (l.map dLeaf) l := by
 intro l
 induction l with
 | nil => intro _; exact .nil
 | cons v l ih =>
  intro h
  simp only [List.all_cons, Bool.and_eq_true] at h
  exact .cons (dLeaf_ok h.1) (ih h.2)
theorem dOf_ok {v : Value} (h : cellsPlain v = true) : DR M g a (dOf v) v := by
 have key : (∃ cs, v = .agg cs) ∨ (dOf v = dLeaf v ∧ cellsPlain v = leafPlain v) := by
  cases v <;> first | exact .inl ⟨_, rfl⟩ | exact .inr ⟨rfl, rfl⟩
 rcases key with ⟨cs, rfl⟩ | ⟨e1, e2⟩
 · exact ⟨cs.toList, by simp, dLeafs_ok h⟩
 · rw [e1]; rw [e2] at h; exact dLeaf_D1 h
theorem leafs_cases {d : D} {ds : List D} (h : leafs d = some ds) : d = .agg ds ∨ (ds = [d] ∧ leafs d = some [d] ∧ ∀ (M : Nat → Prop) g a v, DR M g a d v = DL M g a d v) := by
 cases d <;> first | (cases h; done) | (cases h; exact .inl rfl) | (cases h; exact .inr ⟨rfl, rfl, fun _ _ _ _ => rfl⟩)
theorem DL.one {d : D} {v : Value} (h : DL M g a d v) (hd : leafs d = some [d]) : oneV v = true := by
 cases d with
 | any => cases hd
 | cmp => cases hd
 | loc i o => obtain ⟨b, k, h1, rfl⟩ := h; rfl
 | row j o n c =>
  rcases h with ⟨_, _, _, rfl⟩ | ⟨b, k, _, rfl⟩ <;> rfl
 | ep e n cs o => obtain ⟨b, i, rfl, _⟩ := h; rfl
 | _ => cases h <;> first | rfl | assumption
theorem acells_one {v : Value} (h : oneV v = true) : acells v = some [v] := by
 cases v <;> first | rfl | cases h
theorem leafs_ok {d : D} {v : Value} {ds : List D} (h : DR M g a d v) (hd : leafs d = some ds) : ∃ vs, acells v = some vs ∧ F2 (DL M g a) ds vs := by
 rcases leafs_cases hd with rfl | ⟨rfl, h2, e⟩
 ·
  obtain ⟨vs, rfl, h2⟩ := h
  exact ⟨vs, by simp [acells], h2⟩
 ·
  rw [e] at h
  exact ⟨[v], acells_one (h.one h2), .cons h .nil⟩
theorem tval_ok {d : D} {v u : Value} (h : DR M g a d v) (e : tval d = some u) : v = u := by
 cases d <;> first | (cases e; done) | (cases e; cases h; rfl)
end
def zd (E : EnvD) : Operand → Option D
 | .tmp t => lk E t
 | .const v => match cellsPlain v with
  | true => some (dOf v)
  | false => none
 | .global _ => none
 | .func f => some (.fn f)
def zdP (E : EnvD) : List (Nat × Operand) → Option (List (Nat × D))
 | [] => some []
 | (i, x) :: xs => match zd E x, zdP E xs with
  | some v, some vs => some ((i, v) :: vs)
  | _, _ => none
section
variable {C : Cx0} {σ : SD} {g : Gh} {s : Env} {a : AH}
theorem zd_ok (S : SR C σ g s a) {x : Operand} {d : D} (e : zd σ.E x = some d) : ∃ v, zev s x = some v ∧ DR (MM C.M g) g a d v := by
 cases x with
 | tmp t => exact ⟨s t, rfl, S.env t d e⟩
 | const v =>
  simp only [zd] at e
  split at e
  · rename_i h; cases e; exact ⟨v, by simp only [zev, h], dOf_ok h⟩
  · cases e
 | global g => cases e
 | func f => cases e; exact ⟨_, rfl, CR.fn⟩
theorem zdP_ok (S : SR C σ g s a) : ∀ {xs : List (Nat × Operand)} {ds : List (Nat × D)}, zdP σ.E xs = some ds → ∃ vs, zevP s xs = some vs ∧ F2 (fun p q => p.1 = q.1 ∧ DR (MM C.M g) g a p.2 q.2) ds vs := by
 intro xs
 induction xs with
 | nil => intro ds e; cases e; exact ⟨[], rfl, .nil⟩
 | cons p xs ih =>
  obtain ⟨i, x⟩ := p
  intro ds e
  simp only [zdP] at e
  split at e
  ·
   rename_i v us h1 h2
   cases e
   obtain ⟨v', q1, q2⟩ := zd_ok S h1
   obtain ⟨vs, q3, q4⟩ := ih h2
   exact ⟨(i, v') :: vs, by simp only [zevP, q1, q3], .cons ⟨rfl, q2⟩ q4⟩
  · cases e
end
def dInt (op : BinOp) (k : IntKind) (a b : Int) : Option D := match op with
 | .add => some (.int k (wrapQ k (a + b)))
 | .sub => some (.int k (wrapQ k (a - b)))
 | .mul => some (.int k (wrapQ k (a * b)))
 | .eql => some (.bool (decide (a = b)))
 | .neq => some (.bool (decide (¬ a = b)))
 | .lss => some (.bool (decide (a < b)))
 | .leq => some (.bool (decide (a ≤ b)))
 | .gtr => some (.bool (decide (b < a)))
 | .geq => some (.bool (decide (b ≤ a)))
 | op => match qbin op (.int k a) (.int k b) with
  | some v => some (dLeaf v)
  | none => none
def plainD (o : Option Value) : Option D := match o with
 | some v => match leafPlain v with
  | true => some (dLeaf v)
  | false => none
 | none => none
def dBin (P : Program) (op : BinOp) (t : TypeId) (ox oy : Operand) (x y : D) : Option D :=
 match x, y with
 | .int k a, .int k' b => match kEq k k' with
  | true => match dInt op k a b with
   | some (.int k z) => some (.int k z)
   | some (.bool b) => some (.bool b)
   | _ => none
  | false => plainD (qbin op (.int k a) (.int k' b))
 | .bool p, .bool q => match plainD (aBin P op t ox oy (.bool true) (.bool true)), plainD (aBin P op t ox oy (.bool true) (.bool false)), plainD (aBin P op t ox oy (.bool false) (.bool true)), plainD (aBin P op t ox oy (.bool false) (.bool false)) with
  | some (.bool a), some (.bool b), some (.bool c), some (.bool d) => some (.bool (bif p then (bif q then a else b) else (bif q then c else d)))
  | _, _, _, _ => none
 | .loc _ _, .lit (.pointer none) => match aNilEq P t (.pointer (some ⟨0, 0, none⟩)) (.pointer none) with
  | true => match op with
   | .eql => some (.bool false)
   | .neq => some (.bool true)
   | _ => none
  | false => none
 | x, y => match tval x, tval y with
  | some vx, some vy => plainD (aBin P op t ox oy vx vy)
  | _, _ => none
theorem plainD_ok {M : Nat → Prop} {g : Gh} {a : AH} {o : Option Value} {d : D} (h : plainD o = some d) : ∃ v, o = some v ∧ DR M g a d v := by
 unfold plainD at h
 split at h
 case h_2 => cases h
 rename_i v
 split at h
 case h_2 => cases h
 rename_i hp
 cases h
 exact ⟨v, rfl, dLeaf_D1 hp⟩
theorem dInt_ok {P : Program} {op : BinOp} {t : TypeId} {ox oy : Operand} {k : IntKind} {x y : Int} {M : Nat → Prop} {g : Gh} {a : AH} {d : D} (h : dInt op k x y = some d) (hd : (∃ k z, d = .int k z) ∨ ∃ b, d = .bool b) :
  ∃ v, aBin P op t ox oy (.int k x) (.int k y) = some v ∧ DR M g a d v := by
 have gen : ∀ op, (match qbin op (.int k x) (.int k y) with | some v => some (dLeaf v) | none => none) = some d → ∃ v, aBin P op t ox oy (.int k x) (.int k y) = some v ∧ DR M g a d v := by
  intro op h
  split at h
  case h_2 => cases h
  rename_i v hv
  cases h
  refine ⟨v, by unfold aBin; rw [hv], ?_⟩
  rcases hd with ⟨k, z, e⟩ | ⟨b, e⟩
  · cases v <;> simp [dLeaf] at e <;> (obtain ⟨rfl, rfl⟩ := e; exact CR.int)
  · cases v <;> simp [dLeaf] at e <;> (subst e; exact CR.bool)
 cases op with
 | add => cases h; exact ⟨_, bin_add .., CR.int⟩
 | sub => cases h; exact ⟨_, bin_sub .., CR.int⟩
 | mul => cases h; exact ⟨_, bin_mul .., CR.int⟩
 | eql => cases h; exact ⟨_, bin_eql .., CR.bool⟩
 | neq => cases h; exact ⟨_, bin_neq .., by rw [← decide_not]; exact CR.bool⟩
 | lss => cases h; exact ⟨_, bin_lss .., CR.bool⟩
 | leq => cases h; exact ⟨_, bin_leq .., CR.bool⟩
 | gtr => cases h; exact ⟨_, bin_gtr .., CR.bool⟩
 | geq => cases h; exact ⟨_, bin_geq .., CR.bool⟩
 | _ => exact gen _ h
theorem dBin_ok {P : Program} {op : BinOp} {t : TypeId} {ox oy : Operand} {M : Nat → Prop} {g : Gh} {a : AH} {x y d : D} {vx vy : Value} (h : dBin P op t ox oy x y = some d) (rx : DR M g a x vx) (ry : DR M g a y vy) :
  ∃ v, aBin P op t ox oy vx vy = some v ∧ DR M g a d v := by
 unfold dBin at h
 split at h
 ·
  rename_i k p k' q
  cases rx; cases ry
  split at h
  ·
   rename_i hk
   have := kEq_eq hk; subst this
   split at h
   · rename_i k' z hd; cases h; exact dInt_ok hd (.inl ⟨_, _, rfl⟩)
   · rename_i b hd; cases h; exact dInt_ok hd (.inr ⟨_, rfl⟩)
   · cases h
  ·
   obtain ⟨v, h1, h2⟩ := plainD_ok (M := M) (g := g) (a := a) h
   exact ⟨v, by unfold aBin; rw [h1], h2⟩
 ·
  rename_i p q
  cases rx; cases ry
  split at h
  ·
   rename_i a b c d h1 h2 h3 h4
   cases h
   have pb : ∀ {o : Option Value} {x : Bool}, plainD o = some (.bool x) → o = some (.bool x) := by
    intro o x e
    obtain ⟨v, e1, e2⟩ := plainD_ok (M := fun _ => False) (g := []) (a := ⟨fun _ => none, fun _ => none, 0⟩) e
    rw [e1]; cases e2; rfl
   cases p <;> cases q
   · exact ⟨_, pb h4, CR.bool⟩
   · exact ⟨_, pb h3, CR.bool⟩
   · exact ⟨_, pb h2, CR.bool⟩
   · exact ⟨_, pb h1, CR.bool⟩
  · cases h
 ·
  obtain ⟨b, k, _, rfl⟩ := rx
  cases ry
  split at h
  case h_2 => cases h
  rename_i hn
  have hn' : ∀ ad : Addr, aNilEq P t (.pointer (some ad)) (.pointer none) = true := fun ad => hn
  split at h
  · cases h; exact ⟨.bool false, by unfold aBin aBinS; simp only [qbin, qagg, cellsPlain, leafPlain, Bool.false_and, hn'], CR.bool⟩
  · cases h; exact ⟨.bool true, by unfold aBin aBinS; simp only [qbin, qagg, cellsPlain, leafPlain, Bool.false_and, hn'], CR.bool⟩
  · cases h
 ·
  split at h
  case h_2 => cases h
  rename_i ux uy h1 h2
  have := tval_ok rx h1; subst this
  have := tval_ok ry h2; subst this
  exact plainD_ok h
def dPart (P : Program) (t : TypeId) (cs : List D) (o : Nat) : Option D := match isAggB P t with
 | some true => match sz P t with
  | some n => match Nat.ble (o + n) cs.length with
   | true => some (.agg ((cs.drop o).take n))
   | false => none
  | none => none
 | some false => match cs[o]? with
  | some d => match leafs d with
   | some [_] => some d
   | _ => none
  | none => none
 | none => none
def dlay (l : List D) : Nat → List D → List D
 | _, [] => l
 | i, v :: vs => dlay (l.set i v) (i + 1) vs
def dFill (place : Nat → Option (Nat × Nat)) (cells : List D) : List (Nat × D) → Option (List D)
 | [] => some cells
 | (i, v) :: rest =>
  match place i, leafs v with
  | some (off, size), some l => match Nat.beq l.length size && Nat.ble (off + size) cells.length with
   | true => dFill place (dlay cells off l) rest
   | false => none
  | _, _ => none
def dBuild (P : Program) (t : TypeId) (parts : List (Nat × D)) : Option D :=
 match aZero P t with
 | some z => match P.underlying t, leafs (dOf z) with
  | some (.struct fields), some zs => match fields.toList.mapM (fun f => (sz P f.type).map fun n => (f.offset, n)) with
   | some places => match dFill (places.toArray[·]?) zs parts with
    | some l => some (.agg l)
    | none => none
   | none => none
  | some (.array _ elem), some zs => match sz P elem with
   | some size => match dFill (fun i => some (i * size, size)) zs parts with
    | some l => some (.agg l)
    | none => none
   | none => none
  | _, _ => none
 | none => none
section
variable {M : Nat → Prop} {g : Gh} {a : AH}
theorem dlay_ok {ds : List D} {vs : List Value} (h : F2 (DL M g a) ds vs) : ∀ {l : List D} {l' : List Value} (i : Nat), F2 (DL M g a) l l' → F2 (DL M g a) (dlay l i ds) (lay l' i vs) := by
 induction h with
 | nil => intro l l' i k; exact k
 | cons h t ih => intro l l' i k; exact ih (i + 1) (k.set i _ _ h)
theorem dFill_ok {place : Nat → Option (Nat × Nat)} : ∀ {parts : List (Nat × D)} {parts' : List (Nat × Value)} {cells l : List D} {cells' : List Value}, dFill place cells parts = some l →
  F2 (fun p q => p.1 = q.1 ∧ DR M g a p.2 q.2) parts parts' → F2 (DL M g a) cells cells' → ∃ l', aFill place cells' parts' = some l' ∧ F2 (DL M g a) l l' := by
 intro parts
 induction parts with
 | nil => intro parts' cells l cells' h hp hc; cases h; cases hp; exact ⟨cells', rfl, hc⟩
 | cons p parts ih =>
  intro parts' cells l cells' h hp hc
  cases hp with
  | cons h1 ht =>
   rename_i q m
   obtain ⟨i, d⟩ := p
   obtain ⟨i', v⟩ := q
   obtain ⟨rfl, hr⟩ := h1
   simp only [dFill] at h
   split at h
   case h_2 => cases h
   rename_i off size ds hpl hds
   split at h
   case h_2 => cases h
   rename_i hb
   obtain ⟨vs, q1, q2⟩ := leafs_ok hr hds
   obtain ⟨l', q3, q4⟩ := ih h ht (dlay_ok q2 off hc)
   refine ⟨l', ?_, q4⟩
   simp only [aFill, hpl, q1]
   rw [← q2.length, ← hc.length, hb]
   exact q3
theorem dPart_ok {P : Program} {t : TypeId} {cs : List D} {vs : List Value} {o : Nat} {d : D} (h : dPart P t cs o = some d) (r : F2 (DL M g a) cs vs) : ∃ v, aPart P t vs.toArray o = some v ∧ DR M g a d v := by
 unfold dPart at h
 unfold aPart
 split at h
 ·
  rename_i ha
  rw [ha]; simp only
  split at h
  case h_2 => cases h
  rename_i n hn
  rw [hn]; simp only
  split at h
  case h_2 => cases h
  cases h
  refine ⟨_, rfl, (vs.drop o).take n, ?_, (r.drop o).take n⟩
  simp [List.extract_eq_take_drop]
 ·
  rename_i ha
  rw [ha]; simp only
  split at h
  case h_2 => cases h
  rename_i d' hd
  split at h
  case h_2 => cases h
  rename_i x hx
  cases h
  obtain ⟨v, h1, h2⟩ := r.get o d hd
  exact ⟨v, by simpa using h1, h2.dr⟩
 · cases h
theorem dPart_load {P : Program} {t : TypeId} {cs : List D} {b k e : Nat} {tt : Bool} {vs : List Value} {o : Nat} {d : D} (h : dPart P t cs o = some d) (hB : a.blk b = some ⟨vs, k, tt, e⟩) (r : F2 (DL M g a) cs vs) :
  ∃ v, zLoad P a t (.pointer (some ⟨b, o, none⟩)) = some v ∧ DR M g a d v := by
 unfold dPart at h
 unfold zLoad
 split at h
 ·
  rename_i ha
  simp only [ha]
  split at h
  case h_2 => cases h
  rename_i n hn
  rw [hn]; simp only
  split at h
  case h_2 => cases h
  rename_i hb
  cases h
  have hb' : o + n ≤ vs.length := by rw [← r.length]; simpa using hb
  rw [rdL_of hB hb']
  exact ⟨_, rfl, _, rfl, (r.drop o).take n⟩
 ·
  rename_i ha
  simp only [ha]
  split at h
  case h_2 => cases h
  rename_i d' hd
  split at h
  case h_2 => cases h
  cases h
  obtain ⟨v, h1, h2⟩ := r.get o d hd
  exact ⟨v, by rw [rd_of hB]; exact h1, h2.dr⟩
 · cases h
theorem zcells {z : Value} {zs : List D} (h : cellsPlain z = true) (hz : leafs (dOf z) = some zs) : F2 (DL M g a) zs z.cells.toList := by
 obtain ⟨vs, h1, h2⟩ := leafs_ok (dOf_ok h) hz
 have : vs = z.cells.toList := by
  cases z <;> simp [acells, Value.cells] at h1 ⊢ <;> first | exact h1.symm | skip
 rw [← this]; exact h2
theorem dBuild_ok {P : Program} {t : TypeId} {parts : List (Nat × D)} {parts' : List (Nat × Value)} {d : D} (h : dBuild P t parts = some d) (r : F2 (fun p q => p.1 = q.1 ∧ DR M g a p.2 q.2) parts parts') :
  ∃ v, aBuild P t parts' = some v ∧ DR M g a d v := by
 unfold dBuild at h
 unfold aBuild
 split at h
 case h_2 => cases h
 rename_i z hz
 rw [hz]; simp only
 have hp := aZero_plain hz
 split at h
 ·
  rename_i fields zs hu hzs
  rw [hu]; simp only
  split at h
  case h_2 => cases h
  rename_i places hpl
  rw [hpl]; simp only
  split at h
  case h_2 => cases h
  rename_i l hl
  cases h
  obtain ⟨l', q1, q2⟩ := dFill_ok hl r (zcells hp hzs)
  rw [q1]
  exact ⟨_, rfl, l', rfl, q2⟩
 ·
  rename_i n elem zs hu hzs
  rw [hu]; simp only
  split at h
  case h_2 => cases h
  rename_i size hs
  rw [hs]; simp only
  split at h
  case h_2 => cases h
  rename_i l hl
  cases h
  obtain ⟨l', q1, q2⟩ := dFill_ok hl r (zcells hp hzs)
  rw [q1]
  exact ⟨_, rfl, l', rfl, q2⟩
 · cases h
theorem dFieldAddr_ok {P : Program} {t : TypeId} {b o b' o' f : Nat} {x : Option Nat} (h : aFieldAddr P t (.pointer (some ⟨0, o, none⟩)) f = some (.pointer (some ⟨b', o', x⟩))) : aFieldAddr P t (.pointer (some ⟨b, o, none⟩)) f = some (.pointer (some ⟨b, o', none⟩)) := by
 unfold aFieldAddr at h ⊢
 split at h
 case h_2 => cases h
 rename_i fields hu
 (try rw [hu]); (try simp only)
 split at h
 case h_2 => cases h
 rename_i fd hf
 (try rw [hf]); simp only at h ⊢
 split at h
 case h_2 => cases h
 rename_i hs
 (try rw [hs]); (try simp only)
 cases h; rfl
theorem dFieldAddr_lin {P : Program} {t : TypeId} {b o b' o' f i : Nat} {x : Option Nat} (h : aFieldAddr P t (.pointer (some ⟨0, o, none⟩)) f = some (.pointer (some ⟨b', o', x⟩))) : aFieldAddr P t (.pointer (some ⟨b, i + o, none⟩)) f = some (.pointer (some ⟨b, i + o', none⟩)) := by
 unfold aFieldAddr at h ⊢
 split at h
 case h_2 => cases h
 rename_i fields hu
 (try rw [hu]); (try simp only)
 split at h
 case h_2 => cases h
 rename_i fd hf
 (try rw [hf]); simp only at h ⊢
 split at h
 case h_2 => cases h
 rename_i hs
 (try rw [hs]); (try simp only)
 cases h; rw [Nat.add_assoc]
end
def dLen (P : Program) (ats : Array TypeId) (d : D) : Option D := match ats[0]? with
 | some t => match P.underlying t, d with
  | some (.slice _), .sl _ n _ => some (.int .i64 n)
  | some (.slice _), .row _ _ n _ => some (.int .i64 n)
  | some (.slice _), .lit (.slice _ n _) => some (.int .i64 n)
  | some .string, .str s => some (.int .i64 s.size)
  | some (.array n _), _ => some (.int .i64 n)
  | _, _ => none
 | none => none
theorem dLen_ok {P : Program} {ats : Array TypeId} {ty : TypeId} {d d' : D} {v : Value} {M : Nat → Prop} {g : Gh} {a : AH} (h : dLen P ats d = some d') (r : DR M g a d v) : ∃ u, aLen P ats ty v = some u ∧ DR M g a d' u := by
 unfold dLen at h
 unfold aLen
 split at h
 case h_2 => cases h
 rename_i t ht
 rw [ht]; simp only
 split at h
 ·
  rename_i e e' n cs hu
  rw [hu]; cases h
  rcases CR.sl_inv r with ⟨rfl, _, rfl⟩ | ⟨b, i, c, rfl, _⟩ <;> exact ⟨_, rfl, CR.int⟩
 ·
  rename_i e j o n c hu
  rw [hu]; cases h
  rcases r with ⟨_, rfl, rfl, rfl⟩ | ⟨b, k, _, rfl⟩ <;> exact ⟨_, rfl, CR.int⟩
 ·
  rename_i e a n c hu
  rw [hu]; cases h
  cases r
  exact ⟨_, rfl, CR.int⟩
 ·
  rename_i s hu
  rw [hu]; cases h
  cases r
  exact ⟨_, rfl, CR.int⟩
 ·
  rename_i n e hu
  rw [hu]; cases h
  exact ⟨_, rfl, CR.int⟩
 · cases h
def withL (L : List Ob) : Option D → Option (D × List Ob)
 | some d => some (d, L)
 | none => none
theorem withL_inv {L L' : List Ob} {o : Option D} {d : D} (h : withL L o = some (d, L')) : o = some d ∧ L' = L := by
 cases o with
 | none => cases h
 | some u => cases h; exact ⟨rfl, rfl⟩
def stepD (P : Program) (op : Op) (E : EnvD) (L : List Ob) : Option (D × List Ob) :=
 match op with
 | .move x => withL L (zd E x)
 | .assign x => withL L (zd E x)
 | .pick c x y => match zd E c with
  | some (.bool true) => withL L (zd E x)
  | some (.bool false) => withL L (zd E y)
  | _ => none
 | .alloc t => match aZero P t with
  | some z => match leafs (dOf z) with
   | some ds => some (.loc L.length 0, L ++ [.box ds])
   | none => none
  | none => none
 | .box _ x => match zd E x with
  | some d => match leafs d with
   | some ds => some (.loc L.length 0, L ++ [.box ds])
   | none => none
  | none => none
 | .build t parts => match zdP E parts.toList with
  | some ps => withL L (dBuild P t ps)
  | none => none
 | .load t x => match zd E x with
  | some (.loc i o) => match L[i]? with
   | some (.box cs) => withL L (dPart P t cs o)
   | some (.row _ _ cs) => withL L (dPart P t cs o)
   | _ => none
  | _ => none
 | .store t x y => match zd E x, zd E y with
  | some (.loc i o), some d => match L[i]?, leafs d, sz P t with
   | some (.box cs), some ds, some n => match Nat.beq ds.length n && Nat.ble (o + n) cs.length with
    | true => some (.any, L.set i (.box (cs.take o ++ ds ++ cs.drop (o + ds.length))))
    | false => none
   | _, _, _ => none
  | _, _ => none
 | .nilCheck x => match zd E x with
  | some (.loc i o) => some (.loc i o, L)
  | some (.fn f) => some (.fn f, L)
  | _ => none
 | .fieldAddr t x f => match zd E x with
  | some (.loc i o) => match aFieldAddr P t (.pointer (some ⟨0, o, none⟩)) f with
   | some (.pointer (some ⟨_, o', _⟩)) => some (.loc i o', L)
   | _ => none
  | some (.ep e n cs o) => match aFieldAddr P t (.pointer (some ⟨0, o, none⟩)) f with
   | some (.pointer (some ⟨_, o', _⟩)) => some (.ep e n cs o', L)
   | _ => none
  | _ => none
 | .field t x f => match zd E x with
  | some (.agg cs) => match P.underlying t with
   | some (.struct fields) => match fields[f]? with
    | some fd => withL L (dPart P fd.type cs fd.offset)
    | none => none
   | _ => none
  | _ => none
 | .binOp op t x y _ => match zd E x, zd E y with
  | some dx, some dy => withL L (dBin P op t x y dx dy)
  | _, _ => none
 | .unOp .not _ x => match zd E x with
  | some (.bool b) => some (.bool (!b), L)
  | _ => none
 | .unOp op _ x => match zd E x with
  | some d => match tval d with
   | some v => match cellsPlain v with
    | true => withL L (plainD (apure P (Op.unary op v)))
    | false => none
   | none => none
  | none => none
 | .makeFunc fn fi ca => match fn, fi.toList, ca.toList with
  | .func f, [], [] => some (.fn f, L)
  | _, _, _ => none
 | .convert src dst x => match zd E x with
  | some (.int k n) => withL L (plainD (qconv P src dst (.int k n)))
  | _ => none
 | .extract x i => match zd E x with
  | some (.tup ds) => match ds[i]? with
   | some (.tup _) => none
   | some d => some (d, L)
   | none => none
  | _ => none
 | .call ⟨.builtin .len, args, ats⟩ => match args.toList with
  | [x] => match zd E x with
   | some d => withL L (dLen P ats d)
   | none => none
  | _ => none
 | .call ⟨.builtin .min, args, _⟩ => match args.toList with
  | [x, y] => match zd E x, zd E y with
   | some (.int k a), some (.int _ b) => some (.int k (min a b), L)
   | _, _ => none
  | _ => none
 | .call ⟨.builtin .max, args, _⟩ => match args.toList with
  | [x, y] => match zd E x, zd E y with
   | some (.int k a), some (.int _ b) => some (.int k (max a b), L)
   | _, _ => none
  | _ => none
 | _ => none
theorem min_ok {P : Program} {ats : Array TypeId} {ty : TypeId} {k k' : IntKind} {a b : Int} : apure P (Builtin.min_ ats ty #[.int k a, .int k' b]) = some (.int k (min a b)) := by
 have : (if b < a then b else a) = min a b := by rw [Int.min_def]; split <;> split <;> omega
 rw [← this]; rfl
theorem max_ok {P : Program} {ats : Array TypeId} {ty : TypeId} {k k' : IntKind} {a b : Int} : apure P (Builtin.max_ ats ty #[.int k a, .int k' b]) = some (.int k (max a b)) := by
 have : (if b > a then b else a) = max a b := by rw [Int.max_def]; split <;> split <;> omega
 rw [← this]; rfl
def StepOk (P : Program) (C : Cx0) (op : Op) (ty : TypeId) (σ : SD) (d : D) (L' : List Ob) : Prop :=
 ∀ g s a, SR C σ g s a → ∃ v a' g', stepZ P op ty s a = some (v, a') ∧ SR C ⟨σ.E, L'⟩ g' s a' ∧ DR (MM C.M g') g' a' d v
theorem StepOk.plain {P : Program} {C : Cx0} {op : Op} {ty : TypeId} {σ : SD} {d : D} (h : ∀ g s a, SR C σ g s a → ∃ v, stepZ P op ty s a = some (v, a) ∧ DR (MM C.M g) g a d v) : StepOk P C op ty σ d σ.L := by
 intro g s a S
 obtain ⟨v, h1, h2⟩ := h g s a S
 exact ⟨v, a, g, h1, S, h2⟩
theorem withA_of {a : AH} {o : Option Value} {v : Value} (h : o = some v) : withA a o = some (v, a) := by rw [h]; rfl
theorem SR.box {C : Cx0} {σ : SD} {g : Gh} {s : Env} {a : AH} (S : SR C σ g s a) {ds : List D} {vs : List Value} (h : F2 (DL (MM C.M g) g a) ds vs) :
  SR C ⟨σ.E, σ.L ++ [.box ds]⟩ (g ++ [some (a.next, a.next)]) s (a.new vs 0) ∧ DR (MM C.M (g ++ [some (a.next, a.next)])) (g ++ [some (a.next, a.next)]) (a.new vs 0) (.loc σ.L.length 0) (.pointer (some ⟨a.next, 0, none⟩)) := by
 have hlast : (g ++ [some (a.next, a.next)])[σ.L.length]? = some (some (a.next, a.next)) := by rw [← S.len]; simp
 refine ⟨S.newObj ⟨a.next, a.next, vs, rfl, new_self .., ?_⟩, ⟨a.next, a.next, hlast, rfl⟩⟩
 refine h.mono fun x y r => DL.mono (Keep.new S.ok vs 0) (fun _ f => f.elim) (S.mm (g' := g ++ [some (a.next, a.next)]) (a' := a.new vs 0) ?_) (Gh.On.app _ _) r
 intro k hk
 rw [cls_new] at hk
 rcases List.mem_append.1 hk with h | h
 · exact .inl h
 · simp at h; subst h; exact .inr ⟨Nat.le_refl _, Nat.lt_succ_self _⟩
theorem F2.over {M : Nat → Prop} {g : Gh} {a : AH} {cs ds : List D} {vs us : List Value} (h : F2 (DL M g a) cs vs) (k : F2 (DL M g a) ds us) (o : Nat) : F2 (DL M g a) (cs.take o ++ ds ++ cs.drop (o + ds.length)) (over vs o us) := by
 unfold Vai.over
 rw [k.length]
 exact ((h.take o).append k).append (h.drop _)
theorem stepD_ok {P : Program} {C : Cx0} {op : Op} {ty : TypeId} {σ : SD} {d : D} {L' : List Ob} (h : stepD P op σ.E σ.L = some (d, L')) : StepOk P C op ty σ d L' := by
 unfold stepD at h
 split at h
 ·
  replace h := withL_inv h; obtain ⟨h, rfl⟩ := h
  exact .plain fun g s a S => by obtain ⟨v, q1, q2⟩ := zd_ok S h; exact ⟨v, by simp only [stepZ]; exact withA_of q1, q2⟩
 ·
  replace h := withL_inv h; obtain ⟨h, rfl⟩ := h
  exact .plain fun g s a S => by obtain ⟨v, q1, q2⟩ := zd_ok S h; exact ⟨v, by simp only [stepZ]; exact withA_of q1, q2⟩
 ·
  split at h
  ·
   rename_i hc
   replace h := withL_inv h; obtain ⟨h, rfl⟩ := h
   refine .plain fun g s a S => ?_
   obtain ⟨v, q1, q2⟩ := zd_ok S h
   obtain ⟨u, p1, p2⟩ := zd_ok S hc
   cases p2
   exact ⟨v, by simp only [stepZ, p1]; exact withA_of q1, q2⟩
  ·
   rename_i hc
   replace h := withL_inv h; obtain ⟨h, rfl⟩ := h
   refine .plain fun g s a S => ?_
   obtain ⟨v, q1, q2⟩ := zd_ok S h
   obtain ⟨u, p1, p2⟩ := zd_ok S hc
   cases p2
   exact ⟨v, by simp only [stepZ, p1]; exact withA_of q1, q2⟩
  · cases h
 ·
  split at h
  case h_2 => cases h
  rename_i z hz
  split at h
  case h_2 => cases h
  rename_i ds hds
  cases h
  intro g s a S
  obtain ⟨vs, q1, q2⟩ := leafs_ok (M := MM C.M g) (g := g) (a := a) (dOf_ok (aZero_plain hz)) hds
  obtain ⟨r1, r2⟩ := S.box q2
  exact ⟨_, _, _, by simp only [stepZ, zAlloc, hz, zBox, q1], r1, r2⟩
 ·
  split at h
  case h_2 => cases h
  rename_i d' hd
  split at h
  case h_2 => cases h
  rename_i ds hds
  cases h
  intro g s a S
  obtain ⟨v, p1, p2⟩ := zd_ok S hd
  obtain ⟨vs, q1, q2⟩ := leafs_ok p2 hds
  obtain ⟨r1, r2⟩ := S.box q2
  exact ⟨_, _, _, by simp only [stepZ, p1, zBox, q1], r1, r2⟩
 ·
  split at h
  case h_2 => cases h
  rename_i ps hps
  replace h := withL_inv h; obtain ⟨h, rfl⟩ := h
  refine .plain fun g s a S => ?_
  obtain ⟨vs, q1, q2⟩ := zdP_ok S hps
  obtain ⟨v, r1, r2⟩ := dBuild_ok h q2
  exact ⟨v, by simp only [stepZ, q1]; exact withA_of r1, r2⟩
 ·
  split at h
  case h_2 => cases h
  rename_i i o hx
  split at h
  ·
   rename_i cs hL
   replace h := withL_inv h; obtain ⟨h, rfl⟩ := h
   refine .plain fun g s a S => ?_
   obtain ⟨v, q1, b, k, q2, rfl⟩ := zd_ok S hx
   obtain ⟨b', k', vs, e, r2, r3⟩ := S.obj i _ _ q2 hL
   cases e
   obtain ⟨v, t1, t2⟩ := dPart_load h r2 r3
   exact ⟨v, by simp only [stepZ, q1]; exact withA_of t1, t2⟩
  ·
   rename_i e' n' cs hL
   replace h := withL_inv h; obtain ⟨h, rfl⟩ := h
   refine .plain fun g s a S => ?_
   obtain ⟨v, q1, b, k, q2, rfl⟩ := zd_ok S hx
   obtain ⟨_, ⟨e, _⟩ | ⟨b', k', vs, e, r2, r3⟩⟩ := S.obj i _ _ q2 hL
   · cases e
   cases e
   obtain ⟨v, t1, t2⟩ := dPart_load (g := g) h r2 (r3.mono fun _ _ r => r.dl)
   exact ⟨v, by simp only [stepZ, q1]; exact withA_of t1, t2⟩
  · cases h
 ·
  split at h
  case h_2 => cases h
  rename_i i o dy hx hy
  split at h
  case h_2 => cases h
  rename_i cs ds n hL hds hs
  split at h
  case h_2 => cases h
  rename_i hb
  cases h
  simp only [Bool.and_eq_true, Nat.beq_eq, Nat.ble_eq] at hb
  intro g s a S
  obtain ⟨v, q1, b, k, q2, rfl⟩ := zd_ok S hx
  obtain ⟨u, p1, p2⟩ := zd_ok S hy
  obtain ⟨us, p3, p4⟩ := leafs_ok p2 hds
  obtain ⟨b', k', vs, e, r2, r3⟩ := S.obj i _ _ q2 hL
  cases e
  have hlen : us.length = n := by rw [← p4.length]; exact hb.1
  have hle : o + us.length ≤ vs.length := by rw [hlen, ← r3.length]; exact hb.2
  refine ⟨undef, _, g, ?_, S.write q2 hL r2 (vs' := over vs o us) ⟨b, k, _, rfl, write_self, ?_⟩ (fun _ _ => ⟨_, rfl⟩), trivial⟩
  ·
   simp only [stepZ, q1, p1, zStore, p3, hs, hlen, Nat.beq_refl]
   unfold AH.wrL
   rw [r2]
   simp only [hle, and_self, if_true]
  ·
   have K := keep_write (B' := ⟨over vs o us, k, true, 0⟩) r2 rfl
   refine (F2.over r3 p4 o).mono fun x y r => DL.mono K (fun x q => ?_) (fun _ _ m => m) (Gh.On.refl _) r
   subst q
   exact .inr (Gh.mem_cls.2 ⟨i, b, q2⟩)
 ·
  split at h
  ·
   rename_i i o hx
   cases h
   refine .plain fun g s a S => ?_
   obtain ⟨v, q1, b, k, q2, rfl⟩ := zd_ok S hx
   exact ⟨_, by simp only [stepZ, q1], b, k, q2, rfl⟩
  ·
   rename_i f hx
   cases h
   refine .plain fun g s a S => ?_
   obtain ⟨v, q1, q2⟩ := zd_ok S hx
   cases q2
   exact ⟨_, by simp only [stepZ, q1], CR.fn⟩
  · cases h
 ·
  split at h
  ·
   rename_i i o hx
   split at h
   case h_2 => cases h
   rename_i b' o' x' ha
   cases h
   refine .plain fun g s a S => ?_
   obtain ⟨v, q1, b, k, q2, rfl⟩ := zd_ok S hx
   exact ⟨_, by simp only [stepZ, q1]; exact withA_of (dFieldAddr_ok ha), b, k, q2, rfl⟩
  ·
   rename_i e n cs o hx
   split at h
   case h_2 => cases h
   rename_i b' o' x' ha
   cases h
   refine .plain fun g s a S => ?_
   obtain ⟨v, q1, b, i, rfl, q3⟩ := zd_ok S hx
   exact ⟨_, by simp only [stepZ, q1]; exact withA_of (dFieldAddr_lin ha), b, i, rfl, q3⟩
  · cases h
 ·
  split at h
  case h_2 => cases h
  rename_i cs hx
  split at h
  case h_2 => cases h
  rename_i fields hu
  split at h
  case h_2 => cases h
  rename_i fd hf
  replace h := withL_inv h; obtain ⟨h, rfl⟩ := h
  refine .plain fun g s a S => ?_
  obtain ⟨v, q1, vs, rfl, q2⟩ := zd_ok S hx
  obtain ⟨u, r1, r2⟩ := dPart_ok h q2
  exact ⟨u, by simp only [stepZ, q1, aField, hu, hf]; exact withA_of r1, r2⟩
 ·
  split at h
  case h_2 => cases h
  rename_i dx dy hx hy
  replace h := withL_inv h; obtain ⟨h, rfl⟩ := h
  refine .plain fun g s a S => ?_
  obtain ⟨vx, q1, q2⟩ := zd_ok S hx
  obtain ⟨vy, p1, p2⟩ := zd_ok S hy
  obtain ⟨v, r1, r2⟩ := dBin_ok h q2 p2
  exact ⟨v, by simp only [stepZ, q1, p1]; exact withA_of r1, r2⟩
 ·
  split at h
  case h_2 => cases h
  rename_i b hx
  cases h
  refine .plain fun g s a S => ?_
  obtain ⟨v, q1, q2⟩ := zd_ok S hx
  cases q2
  exact ⟨.bool (!b), by simp only [stepZ, q1, cellsPlain, leafPlain]; exact withA_of (un_not b), CR.bool⟩
 ·
  split at h
  case h_2 => cases h
  rename_i dx hx
  split at h
  case h_2 => cases h
  rename_i v0 hv
  split at h
  case h_2 => cases h
  rename_i hp
  replace h := withL_inv h; obtain ⟨h, rfl⟩ := h
  refine .plain fun g s a S => ?_
  obtain ⟨v, q1, q2⟩ := zd_ok S hx
  have := tval_ok q2 hv; subst this
  obtain ⟨u, r1, r2⟩ := plainD_ok (M := MM C.M g) (g := g) (a := a) h
  exact ⟨u, by simp only [stepZ, q1, hp]; exact withA_of r1, r2⟩
 ·
  split at h
  case h_2 => cases h
  rename_i f h1 h2
  cases h
  refine .plain fun g s a S => ⟨_, ?_, CR.fn⟩
  simp only [stepZ, h1, h2, zevL, List.all_nil, isFn, Bool.and_self]
 ·
  split at h
  case h_2 => cases h
  rename_i k n hx
  replace h := withL_inv h; obtain ⟨h, rfl⟩ := h
  refine .plain fun g s a S => ?_
  obtain ⟨v, q1, q2⟩ := zd_ok S hx
  cases q2
  obtain ⟨u, r1, r2⟩ := plainD_ok (M := MM C.M g) (g := g) (a := a) h
  exact ⟨u, by simp only [stepZ, q1, zConvert, r1], r2⟩
 ·
  split at h
  case h_2 => cases h
  rename_i ds hx
  split at h
  · cases h
  ·
   rename_i d' hnt hd
   cases h
   refine .plain fun g s a S => ?_
   obtain ⟨v, q1, vs, rfl, q2⟩ := zd_ok S hx
   obtain ⟨u, r1, r2⟩ := q2.get _ _ hd
   exact ⟨u, by simp only [stepZ, q1, aExtract]; exact withA_of (by simpa using r1), r2.dr⟩
  · cases h
 ·
  split at h
  case h_2 => cases h
  rename_i x hx
  split at h
  case h_2 => cases h
  rename_i dx hd
  replace h := withL_inv h; obtain ⟨h, rfl⟩ := h
  refine .plain fun g s a S => ?_
  obtain ⟨v, q1, q2⟩ := zd_ok S hd
  obtain ⟨u, r1, r2⟩ := dLen_ok (ty := ty) h q2
  exact ⟨u, by simp only [stepZ, hx, zevL, q1]; exact withA_of r1, r2⟩
 ·
  split at h
  case h_2 => cases h
  rename_i x y hx
  split at h
  case h_2 => cases h
  rename_i k a k' b h1 h2
  cases h
  refine .plain fun g s a S => ?_
  obtain ⟨v, q1, q2⟩ := zd_ok S h1
  obtain ⟨u, p1, p2⟩ := zd_ok S h2
  cases q2; cases p2
  exact ⟨_, by simp only [stepZ, hx, zevL, q1, p1, List.all_cons, List.all_nil, cellsPlain, leafPlain, Bool.and_self]; exact withA_of min_ok, CR.int⟩
 ·
  split at h
  case h_2 => cases h
  rename_i x y hx
  split at h
  case h_2 => cases h
  rename_i k a k' b h1 h2
  cases h
  refine .plain fun g s a S => ?_
  obtain ⟨v, q1, q2⟩ := zd_ok S h1
  obtain ⟨u, p1, p2⟩ := zd_ok S h2
  cases q2; cases p2
  exact ⟨_, by simp only [stepZ, hx, zevL, q1, p1, List.all_cons, List.all_nil, cellsPlain, leafPlain, Bool.and_self]; exact withA_of max_ok, CR.int⟩
 · cases h
end
end Go.Vai

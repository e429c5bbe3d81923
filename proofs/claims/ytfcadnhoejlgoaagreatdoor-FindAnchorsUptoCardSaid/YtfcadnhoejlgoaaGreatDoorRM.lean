/-
  What is proved here: data told in words that say less; bits of integers; a row that grows by data of any length (part RM of the layer for plain data). a sign turned into a text; calls of what the model gives by itself (part RN of the layer for plain data). remainders of any integers, texts laid end to end (part RQ of the layer for plain data). No conditions but those that the theorems state.
-/
import Derived.Test.YtfcadnhoejlgoaaGreatDoorRJ
set_option linter.unusedVariables false
set_option linter.unusedSimpArgs false
namespace Go.Vai
noncomputable section
variable {P : Program} {ov : Ov} {C : Cx0} {ops : Array Oper} {dst : Option Nat} {ty : TypeId} {pos : String} {after : Array Edge} {l : List Oper} {E : EnvD} {L : List Ob} {q : SD → Prop}
theorem OD.imp (t : Nat) {d d' : D} (hl : lk E t = some d) (k : ∀ M g a v, DR M g a d v → DR M g a d' v) (h : OD P ov C ops l ⟨setv t d' E, L⟩ q) : OD P ov C ops l ⟨E, L⟩ q :=
 fun g s a S => h g s a (S.setv (k _ _ _ _ (S.env t d hl)))
def reNil1 : Nat → D → D
 | 0, d => d
 | e + 1, .lit (.slice none 0 0) => .sl (e + 1) 0 []
 | _, d => d
def reNil : List Nat → List D → List D
 | e :: es, d :: ds => reNil1 e d :: reNil es ds
 | _, ds => ds
theorem reNil1_ok {M : Nat → Prop} {g : Gh} {a : AH} {e : Nat} {d : D} {v : Value} (h : DL M g a d v) : DL M g a (reNil1 e d) v := by
 unfold reNil1
 split
 · exact h
 · cases h; exact CR.nil
 · exact h
theorem reNil_ok {M : Nat → Prop} {g : Gh} {a : AH} : ∀ {es : List Nat} {ds : List D} {vs : List Value}, F2 (DL M g a) ds vs → F2 (DL M g a) (reNil es ds) vs := by
 intro es
 induction es with
 | nil => intro ds vs h; cases ds <;> exact h
 | cons e es ih =>
  intro ds vs h
  cases h with
  | nil => exact .nil
  | cons h t => exact .cons (reNil1_ok h) (ih t)
theorem OD.reNil (t : Nat) (es : List Nat) {ds ds' : List D} (hl : lk E t = some (.agg ds)) (e : Go.Vai.reNil es ds = ds') (h : OD P ov C ops l ⟨setv t (.agg ds') E, L⟩ q) : OD P ov C ops l ⟨E, L⟩ q :=
 OD.imp (d := .agg ds) (d' := .agg ds') t hl (fun M g a v (hh : DR M g a (.agg ds) v) => by obtain ⟨vs, h1, h2⟩ := hh; exact ⟨vs, h1, e ▸ reNil_ok h2⟩) h
theorem OD.bit {op : BinOp} {t : TypeId} {x y : Operand} {c : TypeId} {k k' : IntKind} {a b z : Int} (hx : zd E x = some (.int k a)) (hy : zd E y = some (.int k' b)) (hq : qbin op (.int k a) (.int k' b) = some (.int k z))
  (h : OD P ov C ops l ⟨pt C.nt E dst (.int k z), L⟩ q) : OD P ov C ops (⟨dst, .binOp op t x y c, ty, pos, after, none⟩ :: l) ⟨E, L⟩ q := by
 refine OD.plain (fun g s' a S => ?_) h
 obtain ⟨vx, q1, q2⟩ := zd_ok S hx
 obtain ⟨vy, p1, p2⟩ := zd_ok S hy
 cases q2; cases p2
 refine ⟨_, ?_, CR.int⟩
 simp only [stepZ, q1, p1]
 refine withA_of ?_
 unfold aBin; rw [hq]
theorem wrapQ_nat {k : IntKind} {m : Nat} (h : m < kHi k) : wrapQ k (.ofNat m) = (m : Int) := by
 unfold wrapQ
 have : Nat.blt m (kHi k) = true := by simpa using h
 simp only [this, Int.ofNat_eq_natCast]
theorem land_lt {m n b : Nat} (h : m < b) : m &&& n < b := Nat.lt_of_le_of_lt Nat.and_le_left h
theorem q_and {k : IntKind} {m n : Nat} (h : m < kHi k) (h2 : n < kHi k) : qbin .and (.int k (m : Int)) (.int k (n : Int)) = some (.int k ((m &&& n : Nat) : Int)) := by
 have hk : kEq k k = true := by cases k <;> rfl
 have e1 : Nat.blt m (kHi k) = true := by simpa using h
 have e2 : Nat.blt n (kHi k) = true := by simpa using h2
 show (match kEq k k with | true => qint .and k (Int.ofNat m) (Int.ofNat n) | false => none) = _
 rw [hk]
 simp only [qint, qbit, e1, e2, Bool.and_self]
 rw [wrapQ_nat (by exact land_lt h)]; rfl
theorem q_or {k : IntKind} {m n : Nat} (h : m < kHi k) (h2 : n < kHi k) (h3 : m ||| n < kHi k) : qbin .or (.int k (m : Int)) (.int k (n : Int)) = some (.int k ((m ||| n : Nat) : Int)) := by
 have hk : kEq k k = true := by cases k <;> rfl
 have e1 : Nat.blt m (kHi k) = true := by simpa using h
 have e2 : Nat.blt n (kHi k) = true := by simpa using h2
 show (match kEq k k with | true => qint .or k (Int.ofNat m) (Int.ofNat n) | false => none) = _
 rw [hk]
 simp only [qint, qbit, e1, e2, Bool.and_self]
 rw [wrapQ_nat (by exact h3)]; rfl
theorem q_shl {k k' : IntKind} {m n : Nat} (h2 : n ≤ k.bits) (h3 : m * 2 ^ n < kHi k) : qbin .shl (.int k (m : Int)) (.int k' (n : Int)) = some (.int k ((m * 2 ^ n : Nat) : Int)) := by
 have e1 : Nat.ble n k.bits = true := by simpa using h2
 show qsh .shl k (Int.ofNat m) (Int.ofNat n) = _
 simp only [qsh, e1]
 rw [wrapQ_nat (by exact h3)]; rfl
theorem and63 (m : Nat) : m &&& 63 = m % 64 := Nat.and_two_pow_sub_one_eq_mod m 6
theorem and31 (m : Nat) : m &&& 31 = m % 32 := Nat.and_two_pow_sub_one_eq_mod m 5
theorem and15 (m : Nat) : m &&& 15 = m % 16 := Nat.and_two_pow_sub_one_eq_mod m 4
theorem and7 (m : Nat) : m &&& 7 = m % 8 := Nat.and_two_pow_sub_one_eq_mod m 3
theorem or64 {a b : Nat} (h : b < 64) : a * 2 ^ 6 ||| b = a * 64 + b := by
 have := Nat.shiftLeft_add_eq_or_of_lt (i := 6) (b := b) (by omega) a
 rw [Nat.shiftLeft_eq] at this
 rw [← this]
theorem OD.appN {args : Array Operand} {ats : Array TypeId} {x y : Operand} {j e : Nat} {cs : List D} (ha : args.toList = [x, y]) (ht : Go.Vai.appT P ats = some e) (hx : zd E x = some (.row j 0 0 0)) (hL : L[j]? = some (.row e 0 cs)) (hy : zd E y = some (.sl e 0 []))
  (h : OD P ov C ops l ⟨pt C.nt (dropE j E) dst (.row j 0 0 0), dropL j (L.set j (.row e 0 cs))⟩ q) : OD P ov C ops (⟨dst, .call ⟨.builtin .append, args, ats⟩, ty, pos, after, none⟩ :: l) ⟨E, L⟩ q := by
 refine OD.heap (fun g s a S => ?_) h
 obtain ⟨vx, q1, q2⟩ := zd_ok S hx
 obtain ⟨vy, p1, p2⟩ := zd_ok S hy
 obtain ⟨new, x1, x2, x3⟩ := sl_cells (g := g) p2
 cases x2
 have hjL := (List.getElem?_eq_some_iff.1 hL).1
 have hj : j < g.length := by have : g.length = L.length := S.len; omega
 have hg : g[j]? = some g[j] := List.getElem?_eq_getElem hj
 have O0 := S.obj j _ _ hg hL
 obtain ⟨hlen, O⟩ := O0
 rcases q2 with ⟨e1, _, _, rfl⟩ | ⟨b, k, e1, rfl⟩
 ·
  have hz : zAppendTo a (.slice none 0 0) e 0 0 0 [] = some (.slice none 0 0, a) := rfl
  obtain ⟨r1, r2⟩ := appT_ok ht rfl x1 (by simp) (by omega) (by omega) hz
  have hset : g.set j none = g := by
   refine List.ext_getElem? fun i => ?_
   by_cases hi : i = j
   · subst hi; rw [List.getElem?_set_self hj, e1]
   · rw [List.getElem?_set_ne (fun q => hi q.symm)]
  refine ⟨.slice none 0 0, a, g, ?_, ?_, .inl ⟨e1, rfl, rfl, rfl⟩⟩
  · simp only [stepZ, ha, zevL, q1, p1]; exact r1
  ·
   have := S.relay (j := j) (x' := none) (o' := .row e 0 cs) (Keep.refl (fun _ => False) a) (fun _ f => f.elim) S.ok hj (fun b k e => by cases e) ⟨hlen, .inl ⟨rfl, rfl⟩⟩ (fun cs e => by cases e)
   rw [hset] at this
   exact this
 rcases O with ⟨o1, _⟩ | ⟨b', k', vs, o1, o2, o3⟩
 · rw [hg, o1] at e1; cases e1
 rw [hg, o1] at e1; cases e1
 have hz : zAppendTo a (.slice (some ⟨b, 0, none⟩) 0 0) e 0 0 0 [] = some (.slice (some ⟨b, 0, none⟩) 0 0, { a with blk := putBlk a.blk b ⟨over vs 0 [], k, true, e⟩ none }) := by
  simp only [zAppendTo, show Nat.ble (0 + 0) 0 = true from rfl, o2, Nat.beq_refl, Nat.zero_add, Nat.zero_mul, AH.wrL, List.length_nil, Nat.zero_le, and_self, if_true]
 obtain ⟨r1, r2⟩ := appT_ok ht rfl x1 (by simp) (by omega) (by omega) hz
 have K := keep_write (B' := ⟨over vs 0 [], k, true, e⟩) o2 rfl
 have hk : k ∈ g.cls := Gh.mem_cls.2 ⟨j, b, by rw [hg, o1]⟩
 have hset : g.set j (some (b, k)) = g := by
  refine List.ext_getElem? fun i => ?_
  by_cases hi : i = j
  · subst hi; rw [List.getElem?_set_self hj, hg, o1]
  · rw [List.getElem?_set_ne (fun q => hi q.symm)]
 refine ⟨.slice (some ⟨b, 0, none⟩) 0 0, { a with blk := putBlk a.blk b ⟨over vs 0 [], k, true, e⟩ none }, g, ?_, ?_, .inr ⟨b, k, by rw [hg, o1], rfl⟩⟩
 · simp only [stepZ, ha, zevL, q1, p1]; exact r1
 ·
  have := S.relay (j := j) (x' := some (b, k)) (o' := .row e 0 cs) K (fun x w => ⟨b, by have w : x = k := w; subst w; rw [hg, o1]⟩) (ok_write S.ok o2 rfl) hj (fun b' k' e => by cases e; exact .inl ⟨b, by rw [hg, o1]⟩)
   (by
    rw [hset]
    refine ⟨hlen, .inr ⟨b, k, _, rfl, write_self, ?_⟩⟩
    have R : F2 (CR (MM C.M g) a) cs (over vs 0 []) := by
     have : over vs 0 [] = vs := by simp [over]
     rw [this]; exact o3
    refine R.mono fun d v r => r.mono K (fun x w => ?_) (fun _ _ m => m)
    have w : x = k := w
    subst w; exact .inr hk)
   (fun cs e => by cases e)
  rw [hset] at this
  exact this
theorem OD.appV' {α : Type} {f : α → D} {args : Array Operand} {ats : Array TypeId} {x y : Operand} {j n m : Nat} {xs vs : List α} {ds : List D} (ha : args.toList = [x, y]) (ht : Go.Vai.appT P ats = some 1) (hx : zd E x = some (.row j 0 n n)) (hL : L[j]? = some (.row 1 n (xs.map f))) (hy : zd E y = some (.sl 1 m ds)) (hv : ds = vs.map f) (hm : vs.length = m)
  (hl : xs.length = n) (h2 : n + m ≤ 100000000)
  (h : OD P ov C ops l ⟨pt C.nt (dropE j E) dst (.row j 0 (n + m) (n + m)), dropL j (L.set j (.row 1 (n + m) ((xs ++ vs).map f)))⟩ q) : OD P ov C ops (⟨dst, .call ⟨.builtin .append, args, ats⟩, ty, pos, after, none⟩ :: l) ⟨E, L⟩ q := by
 rcases Nat.eq_zero_or_pos m with h0 | h0
 ·
  subst h0
  have : vs = [] := List.length_eq_zero_iff.1 hm
  subst this; subst hv
  rw [List.append_nil] at h
  rcases Nat.eq_zero_or_pos n with h1 | h1
  · subst h1; exact OD.appN ha ht hx hL hy h
  ·
   refine OD.appI ha ht hx hL hy (Nat.le_refl _) (Nat.le_refl _) h1 (by omega) (by omega) ?_
   rw [List.take_of_length_le (by simp; omega), List.map_nil, List.append_nil, List.drop_eq_nil_of_le (by simp; omega), List.append_nil]
   exact h
 · exact OD.appV ha ht hx hL hy hv hl h0 h2 h
end
end Go.Vai
namespace Go.Vai
noncomputable section
variable {P : Program} {ov : Ov} {C : Cx0} {ops : Array Oper} {dst : Option Nat} {ty : TypeId} {pos : String} {after : Array Edge} {l : List Oper} {E : EnvD} {L : List Ob} {q : SD → Prop}
def isI32T (P : Program) (t : TypeId) : Bool := match P.underlying t with
 | some (.int .i32) => true
 | _ => false
theorem prun_rs {src dst : TypeId} {r : Int} (hs : P.underlying src = some (.int .i32)) (hd : P.underlying dst = some .string) : prun P (convert src dst (.int .i32 r)) = some (.string (Utf8.encode r)) := by
 unfold convert
 rw [prun_bind (prun_under hs)]
 rw [prun_bind (prun_under hd)]
 rfl
theorem OD.convRS {src dst' : TypeId} {x : Operand} {r : Int} (hx : zd E x = some (.int .i32 r)) (hs : isI32T P src = true) (hd : isStrT P dst' = true)
  (h : OD P ov C ops l ⟨pt C.nt E dst (.str (Utf8.encode r)), L⟩ q) : OD P ov C ops (⟨dst, .convert src dst' x, ty, pos, after, none⟩ :: l) ⟨E, L⟩ q := by
 refine OD.plain (fun g s a S => ?_) h
 obtain ⟨vx, q1, q2⟩ := zd_ok S hx
 cases q2
 have hd' := isStrT_ok hd
 have hs' : P.underlying src = some (.int .i32) := by
  unfold isI32T at hs; split at hs
  · assumption
  · cases hs
 refine ⟨.string (Utf8.encode r), ?_, CR.str⟩
 have hq : qconv P src dst' (.int .i32 r) = none := by simp only [qconv, hs', hd']
 simp only [stepZ, q1, zConvert, hq, cellsPlain, leafPlain, apure, prun_rs hs' hd']
def extB (P : Program) (g : FuncId) : Bool := match P.funcs[g]? with
 | some fn => match fn.name == "runtime.NumGoroutine" with
  | true => false
  | false => fn.body.isNone
 | none => false
theorem StepA.ext {o : Oper} {x : Operand} {args : Array Operand} {ats : Array TypeId} (ho : o.op = .call ⟨.value x, args, ats⟩) {s : Env} {a : AH} {g : FuncId} {l : List Value} {v : Value}
  (hx : zev s x = some (.func (.func g) #[] #[])) (hl : zevL s args.toList = some l) (hb : extB P g = true) (hp : l.all cellsPlain = true) (he : prun P (callFunc g l.toArray) = some (.value v)) (hv : cellsPlain v = true) {Q : Value → AH → Prop} (q : Q v a) : StepA P ov o s a Q := by
 intro tm h hs A
 refine ⟨v, h, a, ⟨0, fun k _ => ?_⟩, A, q⟩
 unfold stepOp
 rw [ho]
 simp only [zev_ok hs h hx, zevL_ok hs h hl]
 unfold extB at hb
 split at hb
 case h_2 => cases hb
 rename_i fn hfn
 rw [hfn]; simp only
 split at hb
 · cases hb
 ·
  rename_i hn
  rw [hn]; simp only
  cases hbd : fn.body with
  | some c => rw [hbd] at hb; cases hb
  | none =>
   have e : ([] ++ l ++ [] : List Value) = l := by simp
   simp only [show (#[] : Array Value).toList = [] from rfl, e, hp, he, hv]
theorem OD.ext2 {x y z : Operand} {args : Array Operand} {ats : Array TypeId} {f : FuncId} {s : ByteArray} {c n : Int} (hx : zd E x = some (.fn f)) (ha : args.toList = [y, z]) (hy : zd E y = some (.str s)) (hz : zd E z = some (.int .u8 c)) (hb : extB P f = true)
  (he : prun P (callFunc f #[.string s, .int .u8 c]) = some (.value (.int .i64 n)))
  (h : OD P ov C ops l ⟨pt C.nt E dst (.int .i64 n), L⟩ q) : OD P ov C ops (⟨dst, .call ⟨.value x, args, ats⟩, ty, pos, after, none⟩ :: l) ⟨E, L⟩ q := by
 intro g s' a S
 obtain ⟨vx, q1, q2⟩ := zd_ok S hx
 obtain ⟨vy, p1, p2⟩ := zd_ok S hy
 obtain ⟨vz, r1, r2⟩ := zd_ok S hz
 cases q2; cases p2; cases r2
 refine OpsA.cons S.kp (fun _ _ => rfl) (StepA.ext rfl q1 (l := [.string s, .int .u8 c]) (by rw [ha]; simp only [zevL, p1, r1]) hb rfl he rfl ?_)
 exact h g _ a (S.put (show DR (MM C.M g) g a (.int .i64 n) (.int .i64 n) from CR.int) dst)
end
end Go.Vai
namespace Go.Vai
noncomputable section
variable {P : Program} {ov : Ov} {C : Cx0} {ops : Array Oper} {dst : Option Nat} {ty : TypeId} {pos : String} {after : Array Edge} {l : List Oper} {E : EnvD} {L : List Ob} {q : SD → Prop}
end
end Go.Vai

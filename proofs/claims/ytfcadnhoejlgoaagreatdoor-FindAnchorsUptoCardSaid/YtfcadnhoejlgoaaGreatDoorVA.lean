/-
  What is proved here: facts on binary tries that hold values by number, and on the relation between a plain heap of numbered blocks and the machine's world (part A of an interpreter of Go code that is checked against the machine). No conditions.
-/
import Derived.Calls
import Derived.Laws.World
import Derived.Laws.Sem
set_option linter.unusedVariables false
set_option linter.unusedSimpArgs false
namespace Go.Vai
inductive Tr (α : Type) where
 | leaf : Tr α
 | node (l : Tr α) (v : Option α) (r : Tr α) : Tr α
namespace Tr
variable {α : Type}
noncomputable def get (t : Tr α) : Nat → Option α :=
 Tr.rec (motive := fun _ => Nat → Option α) (fun _ => none) (fun _ v _ gl gr i => Nat.rec (motive := fun _ => Option α) v (fun p _ => Nat.rec (motive := fun _ => Option α) (gl (Nat.div p 2)) (fun _ _ => gr (Nat.div p 2)) (Nat.mod p 2)) i) t
def lf : Tr α → Tr α
 | leaf => leaf
 | node l _ _ => l
def rt : Tr α → Tr α
 | leaf => leaf
 | node _ _ r => r
def vl : Tr α → Option α
 | leaf => none
 | node _ v _ => v
noncomputable def set (k : Nat) (t : Tr α) (i : Nat) (x : α) : Tr α :=
 Nat.rec (motive := fun _ => Tr α → Nat → Tr α) (fun t _ => t)
  (fun _ ih t i => Tr.rec (motive := fun _ => Tr α)
   (Nat.rec (motive := fun _ => Tr α) (node leaf (some x) leaf) (fun p _ => Nat.rec (motive := fun _ => Tr α) (node (ih leaf (Nat.div p 2)) none leaf) (fun _ _ => node leaf none (ih leaf (Nat.div p 2))) (Nat.mod p 2)) i)
   (fun l v r _ _ => Nat.rec (motive := fun _ => Tr α) (node l (some x) r) (fun p _ => Nat.rec (motive := fun _ => Tr α) (node (ih l (Nat.div p 2)) v r) (fun _ _ => node l v (ih r (Nat.div p 2))) (Nat.mod p 2)) i) t) k t i
theorem natRec_if {β : Type} (a b : β) (n : Nat) : (Nat.rec (motive := fun _ => β) a (fun _ _ => b) n : β) = if n = 0 then a else b := by
 cases n <;> rfl
theorem get_eq (t : Tr α) (i : Nat) : t.get i = if i = 0 then t.vl else if i % 2 = 1 then t.lf.get (i / 2) else t.rt.get (i / 2 - 1) := by
 cases t with
 | leaf => show (none : Option α) = if i = 0 then none else if i % 2 = 1 then none else none; split <;> (try split) <;> rfl
 | node l v r =>
  cases i with
  | zero => rfl
  | succ p =>
   show (Nat.rec (motive := fun _ => Option α) (l.get (Nat.div p 2)) (fun _ _ => r.get (Nat.div p 2)) (Nat.mod p 2) : Option α) = _
   rw [natRec_if]
   have e1 : Nat.mod p 2 = p % 2 := rfl
   have e2 : Nat.div p 2 = p / 2 := rfl
   rw [e1, e2, if_neg (by omega : ¬ p + 1 = 0)]
   by_cases h : p % 2 = 0
   · rw [if_pos h, if_pos (by omega)]; show l.get _ = l.get _; congr 1; omega
   · rw [if_neg h, if_neg (by omega)]; show r.get _ = r.get _; congr 1; omega
theorem set_eq (k : Nat) (t : Tr α) (i : Nat) (x : α) : set (k + 1) t i x =
  if i = 0 then node t.lf (some x) t.rt else if i % 2 = 1 then node (set k t.lf (i / 2) x) t.vl t.rt else node t.lf t.vl (set k t.rt (i / 2 - 1) x) := by
 cases t with
 | leaf =>
  cases i with
  | zero => rfl
  | succ p =>
   show (Nat.rec (motive := fun _ => Tr α) (node (set k leaf (Nat.div p 2) x) none leaf) (fun _ _ => node leaf none (set k leaf (Nat.div p 2) x)) (Nat.mod p 2) : Tr α) = _
   rw [natRec_if]
   have e1 : Nat.mod p 2 = p % 2 := rfl
   have e2 : Nat.div p 2 = p / 2 := rfl
   rw [e1, e2, if_neg (by omega : ¬ p + 1 = 0)]
   by_cases h : p % 2 = 0
   · rw [if_pos h, if_pos (by omega), show (p + 1) / 2 = p / 2 by omega]; rfl
   · rw [if_neg h, if_neg (by omega), show (p + 1) / 2 - 1 = p / 2 by omega]; rfl
 | node l v r =>
  cases i with
  | zero => rfl
  | succ p =>
   show (Nat.rec (motive := fun _ => Tr α) (node (set k l (Nat.div p 2) x) v r) (fun _ _ => node l v (set k r (Nat.div p 2) x)) (Nat.mod p 2) : Tr α) = _
   rw [natRec_if]
   have e1 : Nat.mod p 2 = p % 2 := rfl
   have e2 : Nat.div p 2 = p / 2 := rfl
   rw [e1, e2, if_neg (by omega : ¬ p + 1 = 0)]
   by_cases h : p % 2 = 0
   · rw [if_pos h, if_pos (by omega), show (p + 1) / 2 = p / 2 by omega]; rfl
   · rw [if_neg h, if_neg (by omega), show (p + 1) / 2 - 1 = p / 2 by omega]; rfl
theorem get_set_same (k : Nat) : ∀ (t : Tr α) (i : Nat) (x : α), i + 1 < 2 ^ k → (set k t i x).get i = some x := by
 induction k with
 | zero => intro t i x h; simp at h
 | succ k ih =>
  intro t i x h
  rw [set_eq]
  have hp : 2 ^ (k + 1) = 2 * 2 ^ k := by rw [Nat.pow_succ]; omega
  by_cases h0 : i = 0
  · rw [if_pos h0, get_eq, if_pos h0]; rfl
  ·
   by_cases h1 : i % 2 = 1
   · rw [if_neg h0, if_pos h1, get_eq, if_neg h0, if_pos h1]; exact ih _ _ _ (by omega)
   · rw [if_neg h0, if_neg h1, get_eq, if_neg h0, if_neg h1]; exact ih _ _ _ (by omega)
theorem get_set_other (k : Nat) : ∀ (t : Tr α) (i j : Nat) (x : α), j ≠ i → (set k t i x).get j = t.get j := by
 induction k with
 | zero => intro t i j x h; rfl
 | succ k ih =>
  intro t i j x h
  rw [set_eq, get_eq t j]
  by_cases h0 : i = 0
  ·
   have hj : ¬ j = 0 := by omega
   rw [if_pos h0, get_eq, if_neg hj, if_neg hj]; rfl
  ·
   by_cases h1 : i % 2 = 1
   ·
    rw [if_neg h0, if_pos h1, get_eq]
    by_cases j0 : j = 0
    · rw [if_pos j0, if_pos j0]; rfl
    ·
     rw [if_neg j0, if_neg j0]
     by_cases j1 : j % 2 = 1
     · rw [if_pos j1, if_pos j1]; exact ih _ _ _ _ (by omega)
     · rw [if_neg j1, if_neg j1]; rfl
   ·
    rw [if_neg h0, if_neg h1, get_eq]
    by_cases j0 : j = 0
    · rw [if_pos j0, if_pos j0]; rfl
    ·
     rw [if_neg j0, if_neg j0]
     by_cases j1 : j % 2 = 1
     · rw [if_pos j1, if_pos j1]; rfl
     · rw [if_neg j1, if_neg j1]; exact ih _ _ _ _ (by omega)
end Tr
noncomputable def Tr.put {α : Type} (t : Tr α) (i : Nat) (x : α) : Tr α := t.set (Nat.succ (Nat.log2 (Nat.succ i))) i x
theorem Tr.get_put_same {α : Type} {t : Tr α} {i : Nat} {x : α} (_h : 0 ≤ i) : (t.put i x).get i = some x := get_set_same _ t i x (Nat.lt_log2_self (n := i + 1))
theorem Tr.get_put_other {α : Type} {t : Tr α} {i j : Nat} {x : α} (h : j ≠ i) : (t.put i x).get j = t.get j := get_set_other _ t i j x h
def leafPlain : Value → Bool
 | .bool _ => true
 | .int _ _ => true
 | .float _ _ => true
 | .complex _ _ _ => true
 | .string _ => true
 | .pointer none => true
 | .slice none 0 0 => true
 | .map none => true
 | .chan none => true
 | .nilFunc => true
 | .nilIface => true
 | .func (.func _) first captured => first.isEmpty && captured.isEmpty
 | .iface _ (.int _ _) => true
 | .iface _ (.string _) => true
 | _ => false
structure Img where
 g : Nat
 o : Nat
 m : Nat
 e : Nat
 z : Option (Obj × Nat)
abbrev Rho := Nat → Option Img
inductive F2 {α β : Type} (R : α → β → Prop) : List α → List β → Prop
 | nil : F2 R [] []
 | cons {a b l m} (h : R a b) (t : F2 R l m) : F2 R (a :: l) (b :: m)
namespace F2
variable {α β : Type} {R S : α → β → Prop}
theorem mono {l : List α} {m : List β} (h : F2 R l m) (hr : ∀ a b, R a b → S a b) : F2 S l m := by
 induction h with
 | nil => exact .nil
 | cons h t ih => exact .cons (hr _ _ h) ih
theorem length {l : List α} {m : List β} (h : F2 R l m) : l.length = m.length := by
 induction h with
 | nil => rfl
 | cons h t ih => simp [ih]
theorem append {l₁ l₂ : List α} {m₁ m₂ : List β} (h : F2 R l₁ m₁) (k : F2 R l₂ m₂) : F2 R (l₁ ++ l₂) (m₁ ++ m₂) := by
 induction h with
 | nil => exact k
 | cons h t ih => exact .cons h ih
theorem get {l : List α} {m : List β} (h : F2 R l m) : ∀ (i : Nat) (a : α), l[i]? = some a → ∃ b, m[i]? = some b ∧ R a b := by
 induction h with
 | nil => intro i a e; simp at e
 | cons h t ih =>
  intro i a e
  cases i with
  | zero => simp at e; subst e; exact ⟨_, by simp, h⟩
  | succ i => simpa using ih i a (by simpa using e)
theorem drop {l : List α} {m : List β} (h : F2 R l m) : ∀ n, F2 R (l.drop n) (m.drop n) := by
 induction h with
 | nil => intro n; simp; exact .nil
 | cons h t ih =>
  intro n
  cases n with
  | zero => exact .cons h t
  | succ n => simpa using ih n
theorem take {l : List α} {m : List β} (h : F2 R l m) : ∀ n, F2 R (l.take n) (m.take n) := by
 induction h with
 | nil => intro n; simp; exact .nil
 | cons h t ih =>
  intro n
  cases n with
  | zero => exact .nil
  | succ n => simpa using .cons h (ih n)
theorem of_get {l : List α} {m : List β} (hl : l.length = m.length) (h : ∀ (i : Nat) (a : α) (b : β), l[i]? = some a → m[i]? = some b → R a b) : F2 R l m := by
 induction l generalizing m with
 | nil => cases m with
  | nil => exact .nil
  | cons b m => simp at hl
 | cons a l ih => cases m with
  | nil => simp at hl
  | cons b m => exact .cons (h 0 a b rfl rfl) (ih (by simpa using hl) fun i a b ha hb => h (i + 1) a b (by simpa using ha) (by simpa using hb))
theorem refl {R : α → α → Prop} (l : List α) (h : ∀ a ∈ l, R a a) : F2 R l l := by
 induction l with
 | nil => exact .nil
 | cons a l ih => exact .cons (h a (by simp)) (ih fun b hb => h b (by simp [hb]))
theorem eq {l m : List α} (h : F2 (fun a b => a = b) l m) : l = m := by
 induction h with
 | nil => rfl
 | cons h t ih => rw [h, ih]
theorem set {l : List α} {m : List β} (h : F2 R l m) : ∀ (i : Nat) (a : α) (b : β), R a b → F2 R (l.set i a) (m.set i b) := by
 induction h with
 | nil => intro i a b r; simp; exact .nil
 | cons h t ih =>
  intro i a b r
  cases i with
  | zero => exact .cons r t
  | succ i => exact .cons h (ih i a b r)
end F2
inductive PRel (ρ : Rho) : Value → Value → Prop
 | plain {v : Value} (h : leafPlain v = true) : PRel ρ v v
 | ptr {b i : Nat} {I : Img} (h : ρ b = some I) : PRel ρ (.pointer (some ⟨b, i, none⟩)) (.pointer (some ⟨I.g, I.o + i, none⟩))
 | yld {b : Nat} {I : Img} (h : ρ b = some I) : PRel ρ (.func (.yield b) #[] #[]) (.func (.yield I.g) #[] #[])
inductive LRel (ρ : Rho) : Value → Value → Prop
 | plain {v : Value} (h : leafPlain v = true) : LRel ρ v v
 | ptr {b i : Nat} {I : Img} (h : ρ b = some I) : LRel ρ (.pointer (some ⟨b, i, none⟩)) (.pointer (some ⟨I.g, I.o + i, none⟩))
 | slice {b i n c c' : Nat} {I : Img} (h : ρ b = some I) (hn : n ≤ c) (hc : c ≤ c') (hm : I.o + i + c' * I.e ≤ I.m) : LRel ρ (.slice (some ⟨b, i, none⟩) n c) (.slice (some ⟨I.g, I.o + i, none⟩) n c')
 | sliceE {a a' : Addr} : LRel ρ (.slice (some a) 0 0) (.slice (some a') 0 0)
 | func {f : FuncId} {first first' cap cap' : Array Value} (h1 : F2 (PRel ρ) first.toList first'.toList) (h2 : F2 (PRel ρ) cap.toList cap'.toList) : LRel ρ (.func (.func f) first cap) (.func (.func f) first' cap')
 | yld {b : Nat} {I : Img} (h : ρ b = some I) : LRel ρ (.func (.yield b) #[] #[]) (.func (.yield I.g) #[] #[])
inductive VRel1 (ρ : Rho) : Value → Value → Prop
 | one {v v' : Value} (h : LRel ρ v v') : VRel1 ρ v v'
 | agg {cs cs' : Array Value} (h : F2 (LRel ρ) cs.toList cs'.toList) : VRel1 ρ (.agg cs) (.agg cs')
inductive VRel (ρ : Rho) : Value → Value → Prop
 | one {v v' : Value} (h : VRel1 ρ v v') : VRel ρ v v'
 | tuple {cs cs' : Array Value} (h : F2 (VRel1 ρ) cs.toList cs'.toList) : VRel ρ (.tuple cs) (.tuple cs')
def Ext (ρ ρ' : Rho) : Prop := ∀ b I, ρ b = some I → ρ' b = some I
theorem Ext.refl (ρ : Rho) : Ext ρ ρ := fun _ _ h => h
theorem Ext.trans {ρ ρ₁ ρ₂ : Rho} (h : Ext ρ ρ₁) (k : Ext ρ₁ ρ₂) : Ext ρ ρ₂ := fun b I e => k b I (h b I e)
theorem PRel.ext {ρ ρ' : Rho} (h : Ext ρ ρ') {v v' : Value} (r : PRel ρ v v') : PRel ρ' v v' := by
 cases r with
 | plain h => exact .plain h
 | ptr k => exact .ptr (h _ _ k)
 | yld k => exact .yld (h _ _ k)
theorem LRel.ext {ρ ρ' : Rho} (h : Ext ρ ρ') {v v' : Value} (r : LRel ρ v v') : LRel ρ' v v' := by
 cases r with
 | plain h => exact .plain h
 | ptr k => exact .ptr (h _ _ k)
 | slice k hn hc hm => exact .slice (h _ _ k) hn hc hm
 | sliceE => exact .sliceE
 | func h1 h2 => exact .func (h1.mono fun _ _ => PRel.ext h) (h2.mono fun _ _ => PRel.ext h)
 | yld k => exact .yld (h _ _ k)
theorem VRel1.ext {ρ ρ' : Rho} (h : Ext ρ ρ') {v v' : Value} (r : VRel1 ρ v v') : VRel1 ρ' v v' := by
 cases r with
 | one k => exact .one (k.ext h)
 | agg k => exact .agg (k.mono fun _ _ => LRel.ext h)
theorem VRel.ext {ρ ρ' : Rho} (h : Ext ρ ρ') {v v' : Value} (r : VRel ρ v v') : VRel ρ' v v' := by
 cases r with
 | one k => exact .one (k.ext h)
 | tuple k => exact .tuple (k.mono fun _ _ => VRel1.ext h)
theorem PRel.toL {ρ : Rho} {v v' : Value} (r : PRel ρ v v') : LRel ρ v v' := by
 cases r with
 | plain h => exact .plain h
 | ptr k => exact .ptr k
 | yld k => exact .yld k
theorem LRel.eq_of_plain {ρ : Rho} {v v' : Value} (r : LRel ρ v v') (h : leafPlain v = true) : v' = v := by
 cases r with
 | plain _ => rfl
 | ptr k => simp [leafPlain] at h
 | slice k hn hc hm => simp [leafPlain] at h
 | sliceE => simp [leafPlain] at h
 | func h1 h2 =>
  rename_i f first first' cap cap'
  simp [leafPlain] at h
  obtain ⟨e1, e2⟩ := h
  subst e1 e2
  have x1 : first' = #[] := by
   have := h1.length; simp at this; exact Array.size_eq_zero_iff.1 this.symm
  have x2 : cap' = #[] := by
   have := h2.length; simp at this; exact Array.size_eq_zero_iff.1 this.symm
  rw [x1, x2]
 | yld k => simp [leafPlain] at h
theorem VRel.eq_of_plain {ρ : Rho} {v v' : Value} (r : VRel ρ v v') (h : leafPlain v = true) : v' = v := by
 cases r with
 | one k => cases k with
  | one k => exact k.eq_of_plain h
  | agg k => cases h
 | tuple k => cases h
theorem VRel.plain {ρ : Rho} {v : Value} (h : leafPlain v = true) : VRel ρ v v := .one (.one (.plain h))
def cellsPlain (v : Value) : Bool := match v with
 | .agg cs => cs.toList.all leafPlain
 | v => leafPlain v
theorem F2.eq_of_plain {ρ : Rho} {l m : List Value} (h : F2 (LRel ρ) l m) (hp : l.all leafPlain = true) : m = l := by
 induction h with
 | nil => rfl
 | cons h t ih =>
  simp only [List.all_cons, Bool.and_eq_true] at hp
  rw [h.eq_of_plain hp.1, ih hp.2]
theorem VRel.eq_of_cellsPlain {ρ : Rho} {v v' : Value} (r : VRel ρ v v') (h : cellsPlain v = true) : v' = v := by
 cases r with
 | one k => cases k with
  | one k =>
   refine k.eq_of_plain ?_
   revert h
   cases v <;> simp [cellsPlain, leafPlain] <;> try exact id
   cases k; contradiction
  | agg k =>
   rename_i cs cs'
   have := k.eq_of_plain h
   congr 1
   exact Array.toList_inj.1 this
 | tuple k => cases h
structure Blk where
 cells : Tr Value
 size : Nat
 esz : Nat
 cls : Nat
 ro : Bool
structure Cls where
 top : Nat
 minv : Nat
structure LoopR where
 state : LoopState
 pend : Option Code
 tm : Tr Value
 nt : Nat
 params : Array Tmp
 assign : Code
 body : Code
inductive ObjR where
 | loop (L : LoopR)
 | iter (s : ByteArray) (pos : Nat)
structure Heap where
 blks : Tr Blk
 next : Nat
 cls : Tr Cls
 objs : Tr ObjR
end Go.Vai

/-
  What is proved here: reads, writes and new blocks of a plain heap are matched by the machine's world (part B of an interpreter of Go code that is checked against the machine). No conditions.
-/
import Derived.Test.YtfcadnhoejlgoaaGreatDoorVA
import Derived.Test.YtfcadnhoejlgoaaGreatDoorVT
set_option linter.unusedVariables false
set_option linter.unusedSimpArgs false
namespace Go.Vai
noncomputable section
def Heap.rd (h : Heap) (b i : Nat) : Option Value :=
 match h.blks.get b with
 | none => none
 | some B =>
  match h.cls.get B.cls with
  | none => none
  | some C =>
   match Nat.ble C.minv b && Nat.blt i B.size with
   | true => B.cells.get i
   | false => none
def Heap.wr (h : Heap) (b i : Nat) (v : Value) : Option Heap :=
 match h.blks.get b with
 | none => none
 | some B =>
  match h.cls.get B.cls with
  | none => none
  | some C =>
   match Nat.beq b C.top && Nat.ble C.minv b && Nat.blt i B.size && Nat.ble 0 i && !B.ro with
   | true => some { blks := h.blks.put b { B with cells := B.cells.put i v }, next := h.next, cls := h.cls.put B.cls { C with minv := b }, objs := h.objs }
   | false => none
def Heap.new (h : Heap) (cells : Tr Value) (size esz : Nat) : Option (Nat × Heap) :=
 match Nat.ble 0 h.next with
 | true => some (h.next, { blks := h.blks.put h.next ⟨cells, size, esz, h.next, false⟩, next := h.next + 1, cls := h.cls.put h.next ⟨h.next, h.next⟩, objs := h.objs })
 | false => none
def Heap.grow (h : Heap) (b : Nat) (atEnd : Bool) (cells : Tr Value) (size esz : Nat) : Option (Nat × Heap) :=
 match h.blks.get b with
 | none => none
 | some B =>
  match h.cls.get B.cls with
  | none => none
  | some C =>
   match Nat.ble 0 h.next && !B.ro with
   | true => some (h.next, { blks := h.blks.put h.next ⟨cells, size, esz, B.cls, false⟩, next := h.next + 1, cls := h.cls.put B.cls ⟨h.next, match atEnd && Nat.beq b C.top with | true => C.minv | false => h.next⟩, objs := h.objs })
   | false => none
def Heap.rdL (h : Heap) (b : Nat) : Nat → Nat → Option (List Value)
 | _, 0 => some []
 | i, n + 1 => match h.rd b i with
  | none => none
  | some v => match h.rdL b (i + 1) n with
   | none => none
   | some vs => some (v :: vs)
def Heap.wrL (h : Heap) (b : Nat) : Nat → List Value → Option Heap
 | _, [] => some h
 | i, v :: vs => match h.wr b i v with
  | none => none
  | some h' => Heap.wrL h' b (i + 1) vs
def trOf : Nat → Tr Value → List Value → Tr Value
 | _, t, [] => t
 | i, t, v :: vs => trOf (i + 1) (t.put i v) vs
theorem trOf_get : ∀ (vs : List Value) (i : Nat) (t : Tr Value) (j : Nat), 0 ≤ i + vs.length → (trOf i t vs).get j = if i ≤ j ∧ j < i + vs.length then vs[j - i]? else t.get j := by
 intro vs
 induction vs with
 | nil =>
  intro i t j h
  have : ¬ (i ≤ j ∧ j < i + ([] : List Value).length) := by simp
  rw [if_neg this]; rfl
 | cons v vs ih =>
  intro i t j h
  simp only [List.length_cons] at h ⊢
  rw [trOf, ih (i + 1) (t.put i v) j (by omega)]
  by_cases h1 : i + 1 ≤ j ∧ j < i + 1 + vs.length
  ·
   rw [if_pos h1, if_pos (by omega)]
   have : j - i = (j - (i + 1)) + 1 := by omega
   rw [this, List.getElem?_cons_succ]
  ·
   rw [if_neg h1]
   by_cases h2 : j = i
   ·
    subst h2
    rw [if_pos (by omega), Tr.get_put_same (by omega)]; simp
   · rw [if_neg (by omega), Tr.get_put_other h2]
def TRel (ρ : Rho) (tm : Tr Value) (tmps : Array Value) : Prop := ∀ t, VRel ρ ((tm.get t).getD undef) (tmps.getD t undef)
theorem TRel.ext {ρ ρ' : Rho} {tm : Tr Value} {tmps : Array Value} (h : TRel ρ tm tmps) (e : Ext ρ ρ') : TRel ρ' tm tmps := fun t => (h t).ext e
def LoopAt (ρ : Rho) (w : World) (g : Nat) (L : LoopR) : Prop :=
 ∃ fn tmps D, w.heap[g]? = some (.loop { state := L.state, pending := L.pend, fn := fn, tmps := tmps, params := L.params, assign := L.assign, body := L.body, defers := D }) ∧ TRel ρ L.tm tmps ∧ tmps.size = L.nt ∧ L.nt < 1000000
def ObjAt (ρ : Rho) (w : World) (g : Nat) : ObjR → Prop
 | .loop L => LoopAt ρ w g L
 | .iter s pos => w.heap[g]? = some (.stringIter s pos)
def noCells : Obj → Bool
 | .cells _ _ _ => false
 | _ => true
theorem ObjAt.go {ρ ρ' : Rho} {w w' : World} {g : Nat} {L : ObjR} (h : ObjAt ρ w g L) (e : Ext ρ ρ') (hw : ∀ o, noCells o = true → w.heap[g]? = some o → w'.heap[g]? = some o) : ObjAt ρ' w' g L := by
 cases L with
 | loop L =>
  obtain ⟨fn, tmps, D, h1, h2, h3, h4⟩ := h
  exact ⟨fn, tmps, D, hw _ rfl h1, h2.ext e, h3, h4⟩
 | iter s pos => exact hw _ rfl h
theorem ObjAt.obj {ρ : Rho} {w : World} {g : Nat} {L : ObjR} (h : ObjAt ρ w g L) : ∃ o, noCells o = true ∧ w.heap[g]? = some o := by
 cases L with
 | loop L => obtain ⟨fn, tmps, D, h1, _⟩ := h; exact ⟨_, rfl, h1⟩
 | iter s pos => exact ⟨_, rfl, h⟩
structure HRel (ρ : Rho) (h : Heap) (w : World) : Prop where
 nx : TW w ∧ ∀ b I, ρ b = some I → ¬ TG I.g
 dom : ∀ b I, ρ b = some I → ∃ B C, h.blks.get b = some B ∧ h.cls.get B.cls = some C ∧ b < h.next ∧ B.esz = I.e ∧ B.cls < h.next ∧ b ≤ C.top ∧ C.top < h.next ∧ I.o + B.size ≤ I.m
 img : ∀ b I B, ρ b = some I → h.blks.get b = some B → I.g < w.heap.size ∧ (∀ j, I.o ≤ j → j < I.m → ∃ v, w.cell? ⟨I.g, j, none⟩ = some v) ∧ (B.ro = false → ∀ j, I.o ≤ j → j < I.m → w.frozen? ⟨I.g, j, none⟩ = false)
 val : ∀ b I B C, ρ b = some I → h.blks.get b = some B → h.cls.get B.cls = some C → C.minv ≤ b → ∀ i v, i < B.size → B.cells.get i = some v → ∃ v', w.cell? ⟨I.g, I.o + i, none⟩ = some v' ∧ LRel ρ v v'
 one : ∀ b₁ b₂ I₁ I₂ B₁ B₂, ρ b₁ = some I₁ → ρ b₂ = some I₂ → I₁.g = I₂.g → h.blks.get b₁ = some B₁ → h.blks.get b₂ = some B₂ → B₁.cls = B₂.cls
 fin : ∀ b I B C J D, ρ b = some I → h.blks.get b = some B → h.cls.get B.cls = some C → C.minv ≤ b → ρ C.top = some J → J.g = I.g → h.blks.get C.top = some D → I.o + B.size ≤ J.o + D.size
 glob : ∀ g B, h.blks.get g = some B → B.ro = true → ∃ I, ρ g = some I ∧ I.g = g ∧ I.o = 0
 lp : ∀ b I L, ρ b = some I → h.objs.get b = some L → ObjAt ρ w I.g L
 ld : ∀ b L, h.objs.get b = some L → b < h.next
 li : ∀ b b' I I' L L', ρ b = some I → ρ b' = some I' → h.objs.get b = some L → h.objs.get b' = some L' → I.g = I'.g → b = b'
 lz : ∀ b I L, ρ b = some I → h.objs.get b = some L → I.o = 0
 st : ∀ b I o T, ρ b = some I → I.z = some (o, T) → T < h.next ∧ ρ T = none ∧ noCells o = false ∧ ∀ B C, h.blks.get b = some B → h.cls.get B.cls = some C → C.top = T → w.heap[I.g]? = some o
structure Fr (ρ : Rho) (w w' : World) : Prop where
 os : w'.os = w.os
 tape : w'.tape = w.tape
 output : w'.output = w.output
 size : w.heap.size ≤ w'.heap.size
 keep : ∀ k, k < w.heap.size → (∀ b I, ρ b = some I → I.g ≠ k) → w'.heap[k]? = w.heap[k]?
structure Grow (ρ ρ' : Rho) (w : World) : Prop where
 ext : Ext ρ ρ'
 new : ∀ b I, ρ' b = some I → w.heap.size ≤ I.g ∨ ∃ b₀ I₀, ρ b₀ = some I₀ ∧ I₀.g = I.g
 zn : ∀ b I, ρ' b = some I → I.z ≠ none → ρ b = some I
theorem Fr.refl (ρ : Rho) (w : World) : Fr ρ w w := ⟨rfl, rfl, rfl, Nat.le_refl _, fun _ _ _ => rfl⟩
theorem Grow.refl (ρ : Rho) (w : World) : Grow ρ ρ w := ⟨Ext.refl ρ, fun b I e => .inr ⟨b, I, e, rfl⟩, fun _ _ e _ => e⟩
theorem Fr.trans {ρ ρ₁ : Rho} {w w₁ w₂ : World} (h : Fr ρ w w₁) (g : Grow ρ ρ₁ w) (k : Fr ρ₁ w₁ w₂) : Fr ρ w w₂ :=
 ⟨k.os.trans h.os, k.tape.trans h.tape, k.output.trans h.output, Nat.le_trans h.size k.size, fun i hi hn =>
  (k.keep i (Nat.lt_of_lt_of_le hi h.size) fun b I e hg => by
   rcases g.new b I e with hb | ⟨b₀, I₀, e₀, eg⟩
   · omega
   · exact hn b₀ I₀ e₀ (eg.trans hg)).trans (h.keep i hi hn)⟩
theorem Grow.trans {ρ ρ₁ ρ₂ : Rho} {w w₁ : World} (g : Grow ρ ρ₁ w) (hs : w.heap.size ≤ w₁.heap.size) (k : Grow ρ₁ ρ₂ w₁) : Grow ρ ρ₂ w :=
 ⟨g.ext.trans k.ext, fun b I e => by
  rcases k.new b I e with hb | ⟨b₀, I₀, e₀, eg⟩
  · exact .inl (Nat.le_trans hs hb)
  ·
   rcases g.new b₀ I₀ e₀ with hb | ⟨b₁, I₁, e₁, eg₁⟩
   · exact .inl (eg ▸ hb)
   · exact .inr ⟨b₁, I₁, e₁, eg₁.trans eg⟩, fun b I e n => g.zn b I (k.zn b I e n) n⟩
theorem Fr.drew {ρ : Rho} {w w' : World} (h : Fr ρ w w') : Fr ρ w w'.drew := ⟨h.os, h.tape, h.output, h.size, h.keep⟩
theorem HRel.drew {ρ : Rho} {h : Heap} {w : World} (H : HRel ρ h w) : HRel ρ h w.drew := ⟨⟨H.nx.1.go fun _ _ => rfl, H.nx.2⟩, H.dom, H.img, H.val, H.one, H.fin, H.glob, fun b I L e1 e2 => (H.lp b I L e1 e2).go (Ext.refl ρ) fun _ _ h => h, H.ld, H.li, H.lz, H.st⟩
theorem rd_parts {h : Heap} {b i : Nat} {v : Value} (e : h.rd b i = some v) : ∃ B C, h.blks.get b = some B ∧ h.cls.get B.cls = some C ∧ C.minv ≤ b ∧ i < B.size ∧ B.cells.get i = some v := by
 unfold Heap.rd at e
 split at e
 · cases e
 ·
  rename_i B hB
  split at e
  · cases e
  ·
   rename_i C hC
   split at e
   ·
    rename_i hc
    simp only [Bool.and_eq_true, Nat.ble_eq, Nat.blt_eq] at hc
    exact ⟨B, C, hB, hC, hc.1, hc.2, e⟩
   · cases e
theorem rd_sound {ρ : Rho} {h : Heap} {w : World} (H : HRel ρ h w) {b i : Nat} {v : Value} {I : Img} (e : h.rd b i = some v) (hb : ρ b = some I) :
  ∃ v', w.cell? ⟨I.g, I.o + i, none⟩ = some v' ∧ LRel ρ v v' := by
 obtain ⟨B, C, hB, hC, hm, hi, hv⟩ := rd_parts e
 exact H.val b I B C hb hB hC hm i v hi hv
theorem rdL_sound {ρ : Rho} {h : Heap} {w : World} (H : HRel ρ h w) {b : Nat} {I : Img} (hb : ρ b = some I) : ∀ (n i : Nat) (vs : List Value), h.rdL b i n = some vs →
  ∃ vs' : List Value, vs'.length = n ∧ (∀ j v, vs'[j]? = some v → w.cell? ⟨I.g, I.o + i + j, none⟩ = some v) ∧ F2 (LRel ρ) vs vs' := by
 intro n
 induction n with
 | zero =>
  intro i vs e
  simp only [Heap.rdL, Option.some.injEq] at e
  subst e
  exact ⟨[], rfl, by simp, .nil⟩
 | succ n ih =>
  intro i vs e
  simp only [Heap.rdL] at e
  split at e
  · cases e
  ·
   rename_i v hv
   split at e
   · cases e
   ·
    rename_i vs₁ h₁
    simp only [Option.some.injEq] at e
    subst e
    obtain ⟨v', hc, hr⟩ := rd_sound H hv hb
    obtain ⟨vs', hl, hcs, hf⟩ := ih (i + 1) vs₁ h₁
    refine ⟨v' :: vs', by simp [hl], ?_, .cons hr hf⟩
    intro j u hj
    cases j with
    | zero => simp at hj; subst hj; exact hc
    | succ j =>
     have := hcs j u (by simpa using hj)
     rw [show I.o + i + (j + 1) = I.o + (i + 1) + j from by omega]; exact this
theorem rdL_length {h : Heap} {b : Nat} : ∀ (n i : Nat) (vs : List Value), h.rdL b i n = some vs → vs.length = n := by
 intro n
 induction n with
 | zero => intro i vs e; simp only [Heap.rdL, Option.some.injEq] at e; subst e; rfl
 | succ n ih =>
  intro i vs e
  simp only [Heap.rdL] at e
  split at e
  · cases e
  ·
   split at e
   · cases e
   ·
    rename_i vs₁ h₁
    simp only [Option.some.injEq] at e
    subst e
    simp [ih _ _ h₁]
def oneC : Value → Bool
 | .agg _ => false
 | .tuple _ => false
 | _ => true
theorem LRel.oneC {ρ : Rho} {v v' : Value} (r : LRel ρ v v') : oneC v' = true := by
 cases r with
 | plain h => cases v <;> first | rfl | simp [leafPlain] at h
 | ptr => rfl
 | slice => rfl
 | sliceE => rfl
 | func => rfl
 | yld => rfl
theorem cell?_set_any (w : World) (a b : Addr) (v : Value) (h : ∃ u, w.cell? b = some u) : ∃ u, (w.setCell a v).cell? b = some u := by
 by_cases e : a = b
 ·
  subst e
  obtain ⟨u, hu⟩ := h
  exact ⟨v, World.cell?_setCell_same w a v hu⟩
 · rw [World.cell?_setCell_other w a b v e]; exact h
theorem obj_setCell {w : World} {a : Addr} {v : Value} {g : Nat} {o : Obj} (n : noCells o = true) (h : w.heap[g]? = some o) : (w.setCell a v).heap[g]? = some o := by
 simp only [World.setCell, Array.getElem?_modify]
 split
 · rw [h]; cases o <;> first | rfl | cases n
 · exact h
theorem heap_set1 (w : World) (a : Addr) (u : Value) {k : Nat} (h : k ≠ a.block) : (w.setCell a u).heap[k]? = w.heap[k]? := by
 show (w.heap.modify a.block _)[k]? = w.heap[k]?
 rw [Array.getElem?_modify, if_neg (fun e => h e.symm)]
theorem wr_sound {ρ : Rho} {h h' : Heap} {w : World} (H : HRel ρ h w) {b i : Nat} {v v' : Value} {I : Img} (e : h.wr b i v = some h') (hb : ρ b = some I) (hv : LRel ρ v v') :
  HRel ρ h' (w.setCell ⟨I.g, I.o + i, none⟩ v') ∧ (∃ u, w.cell? ⟨I.g, I.o + i, none⟩ = some u) ∧ w.frozen? ⟨I.g, I.o + i, none⟩ = false := by
 unfold Heap.wr at e
 split at e
 · cases e
 rename_i B hB
 split at e
 · cases e
 rename_i C hC
 split at e
 case h_2 => cases e
 rename_i hc
 simp only [Bool.and_eq_true, Nat.blt_eq, Nat.ble_eq, Bool.not_eq_true'] at hc
 obtain ⟨⟨⟨⟨hbt, hmv⟩, hi⟩, hi9⟩, hro⟩ := hc
 have hbt : b = C.top := Nat.eq_of_beq_eq_true hbt
 simp only [Option.some.injEq] at e
 subst e
 obtain ⟨B', C', hB', hC', hbn, hes, hcn, hbtop, htn, hsz⟩ := H.dom b I hb
 rw [hB] at hB'; cases hB'
 rw [hC] at hC'; cases hC'
 have hnx := H.nx
 obtain ⟨hgs, hcell, hfr⟩ := H.img b I B hb hB
 obtain ⟨u, hu⟩ := hcell (I.o + i) (by omega) (by omega)
 have gsame : ∀ B₁, (h.blks.put b { B with cells := B.cells.put i v }).get b = some B₁ → B₁ = { B with cells := B.cells.put i v } := by
  intro B₁ e1; rw [Tr.get_put_same (by omega)] at e1; exact (Option.some.inj e1).symm
 have csame : (h.cls.put B.cls { C with minv := b }).get B.cls = some { C with minv := b } := Tr.get_put_same (by omega)
 have back : ∀ b₁ B₁, (h.blks.put b { B with cells := B.cells.put i v }).get b₁ = some B₁ → ∃ B₀, h.blks.get b₁ = some B₀ ∧ B₁.size = B₀.size ∧ B₁.esz = B₀.esz ∧ B₁.cls = B₀.cls ∧ B₁.ro = B₀.ro ∧ (b₁ ≠ b → B₁ = B₀) := by
  intro b₁ B₁ e1
  by_cases hb1 : b₁ = b
  ·
   subst hb1
   rw [gsame B₁ e1]
   exact ⟨B, hB, rfl, rfl, rfl, rfl, fun hn => absurd rfl hn⟩
  ·
   rw [Tr.get_put_other hb1] at e1
   exact ⟨B₁, e1, rfl, rfl, rfl, rfl, fun _ => rfl⟩
 have fore : ∀ b₁ B₀, h.blks.get b₁ = some B₀ → ∃ B₁, (h.blks.put b { B with cells := B.cells.put i v }).get b₁ = some B₁ ∧ B₁.size = B₀.size ∧ B₁.esz = B₀.esz ∧ B₁.cls = B₀.cls ∧ B₁.ro = B₀.ro := by
  intro b₁ B₀ e1
  by_cases hb1 : b₁ = b
  ·
   subst hb1
   rw [hB] at e1; cases e1
   exact ⟨_, Tr.get_put_same (by omega), rfl, rfl, rfl, rfl⟩
  · exact ⟨B₀, by rw [Tr.get_put_other hb1]; exact e1, rfl, rfl, rfl, rfl⟩
 refine ⟨⟨⟨hnx.1.go fun k hk => heap_set1 w ⟨I.g, I.o + i, none⟩ v' (fun (e : k = I.g) => hnx.2 b I hb (e ▸ hk)), hnx.2⟩, ?_, ?_, ?_, ?_, ?_, ?_, fun b I L e1 e2 => (H.lp b I L e1 e2).go (Ext.refl ρ) fun _ n h => obj_setCell n h, H.ld, H.li, H.lz, ?_⟩, ⟨u, hu⟩, hfr hro _ (by omega) (by omega)⟩
 ·
  intro b₁ I₁ e1
  obtain ⟨B₀, C₀, h1, h2, h3, h4, h5, h6, h7, h8⟩ := H.dom b₁ I₁ e1
  obtain ⟨B₁, g1, g2, g3, g4, g5⟩ := fore b₁ B₀ h1
  by_cases hcl : B₀.cls = B.cls
  ·
   refine ⟨B₁, { C with minv := b }, g1, by rw [g4, hcl]; exact csame, h3, by rw [g3]; exact h4, by rw [g4]; exact h5, ?_, htn, by rw [g2]; exact h8⟩
   rw [hcl, hC] at h2; cases h2; exact h6
  · exact ⟨B₁, C₀, g1, by rw [g4, Tr.get_put_other hcl]; exact h2, h3, by rw [g3]; exact h4, by rw [g4]; exact h5, h6, h7, by rw [g2]; exact h8⟩
 ·
  intro b₁ I₁ B₁ e1 e2
  obtain ⟨B₀, g1, g2, g3, g4, g5, g6⟩ := back b₁ B₁ e2
  obtain ⟨k1, k2, k3⟩ := H.img b₁ I₁ B₀ e1 g1
  refine ⟨by simpa using k1, fun j ho hj => cell?_set_any w _ _ v' (k2 j ho hj), fun hr j ho hj => ?_⟩
  rw [World.frozen?_setCell]; exact k3 (g5 ▸ hr) j ho hj
 ·
  intro b₁ I₁ B₁ C₁ e1 e2 e3 e4 j x hj hx
  obtain ⟨B₀, g1, g2, g3, g4, g5, g6⟩ := back b₁ B₁ e2
  by_cases hcl : B₀.cls = B.cls
  ·
   rw [g4, hcl, csame] at e3
   simp only [Option.some.injEq] at e3
   subst e3
   obtain ⟨B₂, C₂, d1, d2, _, _, _, d6, _, _⟩ := H.dom b₁ I₁ e1
   rw [g1] at d1; cases d1
   rw [hcl, hC] at d2; cases d2
   have hbb : b₁ = b := by
    have : b ≤ b₁ := e4
    omega
   subst hbb
   rw [hb] at e1; cases e1
   have := gsame B₁ e2
   subst this
   by_cases hji : j = i
   ·
    subst hji
    have hx' : (B.cells.put j v).get j = some x := hx
    rw [Tr.get_put_same hi9] at hx'
    cases hx'
    exact ⟨v', World.cell?_setCell_same w _ v' hu, hv⟩
   ·
    have hx' : (B.cells.put i v).get j = some x := hx
    rw [Tr.get_put_other hji] at hx'
    obtain ⟨y, y1, y2⟩ : ∃ y, w.cell? ⟨I.g, I.o + j, none⟩ = some y ∧ LRel ρ x y := H.val b₁ I B C hb hB hC hmv j x hj hx'
    exact ⟨y, by rw [World.cell?_setCell_other]; exact y1; simp; omega, y2⟩
  ·
   rw [g4, Tr.get_put_other hcl] at e3
   have hne : b₁ ≠ b := by
    rintro rfl
    rw [hB] at g1; cases g1; exact hcl rfl
   obtain rfl := g6 hne
   obtain ⟨y, y1, y2⟩ := H.val b₁ I₁ B₁ C₁ e1 g1 e3 e4 j x hj hx
   refine ⟨y, ?_, y2⟩
   rw [World.cell?_setCell_other]
   · exact y1
   ·
    intro ea
    have : I.g = I₁.g := congrArg Addr.block ea
    exact hcl (H.one b₁ b I₁ I B₁ B e1 hb this.symm g1 hB)
 ·
  intro b₁ b₂ I₁ I₂ B₁ B₂ e1 e2 eg h1 h2
  obtain ⟨B₁', p1, _, _, p4, _, _⟩ := back b₁ B₁ h1
  obtain ⟨B₂', q1, _, _, q4, _, _⟩ := back b₂ B₂ h2
  rw [p4, q4]; exact H.one b₁ b₂ I₁ I₂ B₁' B₂' e1 e2 eg p1 q1
 ·
  intro b₁ I₁ B₁ C₁ J D e1 e2 e3 e4 e5 e6 e7
  obtain ⟨B₀, g1, g2, g3, g4, g5, g6⟩ := back b₁ B₁ e2
  obtain ⟨D₀, k1, k2, _, k4, _, _⟩ := back C₁.top D e7
  by_cases hcl : B₀.cls = B.cls
  ·
   rw [g4, hcl, csame] at e3
   simp only [Option.some.injEq] at e3
   subst e3
   obtain ⟨B₂, C₂, d1, d2, _, _, _, d6, _, _⟩ := H.dom b₁ I₁ e1
   rw [g1] at d1; cases d1
   rw [hcl, hC] at d2; cases d2
   have hbb : b₁ = b := by
    have : b ≤ b₁ := e4
    omega
   have ht : C.top = b₁ := by omega
   have e5' : ρ C.top = some J := e5
   have k1' : h.blks.get C.top = some D₀ := k1
   rw [ht] at e5' k1'
   rw [e1] at e5'; cases e5'
   rw [g1] at k1'; cases k1'
   omega
  ·
   rw [g4, Tr.get_put_other hcl] at e3
   have := H.fin b₁ I₁ B₀ C₁ J D₀ e1 g1 e3 e4 e5 e6 k1
   omega
 ·
  intro g B₁ e1 e2
  obtain ⟨B₀, g1, _, _, _, g5, _⟩ := back g B₁ e1
  exact H.glob g B₀ g1 (g5 ▸ e2)
 ·
  intro b₁ I₁ o T e1 ez
  obtain ⟨s1, s2, s3, s4⟩ := H.st b₁ I₁ o T e1 ez
  refine ⟨s1, s2, s3, fun B₁ C₁ h1 h2 ht => ?_⟩
  obtain ⟨B₀, g1, g2, g3, g4, g5, g6⟩ := back b₁ B₁ h1
  by_cases hcl : B₀.cls = B.cls
  ·
   rw [g4, hcl, csame] at h2
   simp only [Option.some.injEq] at h2
   subst h2
   have ht : C.top = T := ht
   rw [← hbt] at ht
   subst ht
   rw [hb] at s2; cases s2
  ·
   rw [g4, Tr.get_put_other hcl] at h2
   have hg : I₁.g ≠ I.g := fun eg => hcl (H.one b₁ b I₁ I B₀ B e1 hb eg g1 hB)
   rw [heap_set1 _ _ _ hg]
   exact s4 B₀ C₁ g1 h2 ht
end
end Go.Vai

/-
  What is proved here: rows of writes, new blocks and blocks that go on in another's class, of a plain heap, are matched by the machine's world (part C of an interpreter of Go code that is checked against the machine). No conditions.
-/
import Derived.Test.YtiebldaihnbkmaaGreatDoorVB
set_option linter.unusedVariables false
set_option linter.unusedSimpArgs false
namespace Go.Vai
noncomputable section
def setN (w : World) (g : Nat) : Nat → List Value → World
 | _, [] => w
 | o, v :: vs => setN (w.setCell ⟨g, o, none⟩ v) g (o + 1) vs
theorem setN_size (g : Nat) : ∀ (vs : List Value) (w : World) (o : Nat), (setN w g o vs).heap.size = w.heap.size := by
 intro vs
 induction vs with
 | nil => intro w o; rfl
 | cons v vs ih => intro w o; rw [setN, ih]; simp
theorem setN_frozen (g : Nat) (a : Addr) : ∀ (vs : List Value) (w : World) (o : Nat), (setN w g o vs).frozen? a = w.frozen? a := by
 intro vs
 induction vs with
 | nil => intro w o; rfl
 | cons v vs ih => intro w o; rw [setN, ih]; simp
theorem setN_any (g : Nat) (a : Addr) : ∀ (vs : List Value) (w : World) (o : Nat), (∃ u, w.cell? a = some u) → ∃ u, (setN w g o vs).cell? a = some u := by
 intro vs
 induction vs with
 | nil => intro w o h; exact h
 | cons v vs ih => intro w o h; rw [setN]; exact ih _ _ (cell?_set_any w _ a v h)
theorem setN_other (g : Nat) (a : Addr) : ∀ (vs : List Value) (w : World) (o : Nat), (a.block ≠ g ∨ a.off < o ∨ o + vs.length ≤ a.off) → (setN w g o vs).cell? a = w.cell? a := by
 intro vs
 induction vs with
 | nil => intro w o h; rfl
 | cons v vs ih =>
  intro w o h
  simp only [List.length_cons] at h
  rw [setN, ih _ _ (by omega), World.cell?_setCell_other]
  intro e
  subst e
  simp at h
  omega
theorem setN_in (g : Nat) : ∀ (vs : List Value) (w : World) (o j : Nat) (v : Value), (∀ j, j < vs.length → ∃ u, w.cell? ⟨g, o + j, none⟩ = some u) → vs[j]? = some v → (setN w g o vs).cell? ⟨g, o + j, none⟩ = some v := by
 intro vs
 induction vs with
 | nil => intro w o j v _ h; simp at h
 | cons x vs ih =>
  intro w o j v hc h
  rw [setN]
  cases j with
  | zero =>
   simp at h; subst h
   rw [setN_other _ _ _ _ _ (by simp)]
   obtain ⟨u, hu⟩ := hc 0 (by simp)
   exact World.cell?_setCell_same w _ x hu
  | succ j =>
   rw [show o + (j + 1) = o + 1 + j from by omega]
   refine ih _ (o + 1) j v (fun i hi => ?_) (by simpa using h)
   have := hc (i + 1) (by simp; omega)
   rw [show o + (i + 1) = o + 1 + i from by omega] at this
   exact cell?_set_any w _ _ x this
theorem setN_heap (g : Nat) (k : Nat) (hk : k ≠ g) : ∀ (vs : List Value) (w : World) (o : Nat), (setN w g o vs).heap[k]? = w.heap[k]? := by
 intro vs
 induction vs with
 | nil => intro w o; rfl
 | cons v vs ih =>
  intro w o
  rw [setN, ih]
  simp only [World.setCell, Array.getElem?_modify]
  rw [if_neg (by omega)]
theorem setN_rest (g : Nat) : ∀ (vs : List Value) (w : World) (o : Nat), (setN w g o vs).os = w.os ∧ (setN w g o vs).tape = w.tape ∧ (setN w g o vs).output = w.output := by
 intro vs
 induction vs with
 | nil => intro w o; exact ⟨rfl, rfl, rfl⟩
 | cons v vs ih => intro w o; rw [setN]; exact ih _ _
theorem setN_fr {ρ : Rho} {w : World} {b : Nat} {I : Img} (hb : ρ b = some I) (o : Nat) (vs : List Value) : Fr ρ w (setN w I.g o vs) := by
 obtain ⟨h1, h2, h3⟩ := setN_rest I.g vs w o
 exact ⟨h1, h2, h3, Nat.le_of_eq (setN_size ..).symm, fun k _ hn => setN_heap I.g k (fun e => hn b I hb e.symm) vs w o⟩
theorem setN_obj (g k : Nat) {r : Obj} (n : noCells r = true) : ∀ (vs : List Value) (w : World) (o : Nat), w.heap[k]? = some r → (setN w g o vs).heap[k]? = some r := by
 intro vs
 induction vs with
 | nil => intro w o h; exact h
 | cons v vs ih => intro w o h; rw [setN]; exact ih _ _ (obj_setCell n h)
theorem wrL_sound {ρ : Rho} {b : Nat} {I : Img} (hb : ρ b = some I) : ∀ (vs vs' : List Value) (h h' : Heap) (w : World) (i : Nat), HRel ρ h w → h.wrL b i vs = some h' → F2 (LRel ρ) vs vs' →
  HRel ρ h' (setN w I.g (I.o + i) vs') ∧ (∀ j, j < vs'.length → (∃ u, w.cell? ⟨I.g, I.o + i + j, none⟩ = some u) ∧ w.frozen? ⟨I.g, I.o + i + j, none⟩ = false) := by
 intro vs
 induction vs with
 | nil =>
  intro vs' h h' w i H e hf
  cases hf
  simp only [Heap.wrL, Option.some.injEq] at e
  subst e
  exact ⟨H, by simp⟩
 | cons v vs ih =>
  intro vs' h h' w i H e hf
  cases hf with
  | cons hv ht =>
   rename_i v' vs'
   simp only [Heap.wrL] at e
   split at e
   · cases e
   rename_i h₁ e₁
   obtain ⟨H₁, hu, hfz⟩ := wr_sound H e₁ hb hv
   obtain ⟨H₂, hr⟩ := ih vs' h₁ h' _ (i + 1) H₁ e ht
   refine ⟨H₂, ?_⟩
   intro j hj
   cases j with
   | zero => exact ⟨hu, hfz⟩
   | succ j =>
    obtain ⟨⟨u, r1⟩, r2⟩ := hr j (by simpa using hj)
    rw [show I.o + i + (j + 1) = I.o + (i + 1) + j from by omega]
    refine ⟨?_, by simpa using r2⟩
    by_cases ea : (⟨I.g, I.o + i, none⟩ : Addr) = ⟨I.g, I.o + (i + 1) + j, none⟩
    · simp at ea; omega
    ·
     rw [World.cell?_setCell_other w _ _ v' ea] at r1
     exact ⟨u, r1⟩
theorem run_store {P : Program} {w : World} {a : Addr} {v : Value} (hv : oneC v = true) (hc : ∃ u, w.cell? a = some u) (hf : w.frozen? a = false) : (store a v).run P w = .ok () (w.setCell a v) := by
 obtain ⟨u, hu⟩ := hc
 cases v <;> first | (simp [oneC] at hv; done) | simp [store, Sem.run, hu, hf]
theorem addr_add (g o i : Nat) : (⟨g, o, none⟩ : Addr).add i = ⟨g, o + i, none⟩ := by
 unfold Addr.add
 split
 · rename_i h; subst h; rfl
 · rfl
theorem run_storeCells {P : Program} (g o : Nat) : ∀ (vs : List Value) (w : World) (i : Nat), (∀ v ∈ vs, oneC v = true) → (∀ j, j < vs.length → (∃ u, w.cell? ⟨g, o + i + j, none⟩ = some u) ∧ w.frozen? ⟨g, o + i + j, none⟩ = false) →
  (storeCells ⟨g, o, none⟩ vs i).run P w = .ok () (setN w g (o + i) vs) := by
 intro vs
 induction vs with
 | nil => intro w i _ _; rfl
 | cons v vs ih =>
  intro w i hv hc
  have h0 := hc 0 (by simp)
  rw [Nat.add_zero] at h0
  rw [storeCells, Sem.run_bind, addr_add, run_store (hv v (by simp)) h0.1 h0.2]
  simp only [Result.andThen_ok]
  rw [ih (w.setCell ⟨g, o + i, none⟩ v) (i + 1) (fun x hx => hv x (by simp [hx]))]
  · rfl
  ·
   intro j hj
   have := hc (j + 1) (by simp; omega)
   rw [show o + (i + 1) + j = o + i + (j + 1) from by omega]
   exact ⟨cell?_set_any w _ _ v this.1, by simpa using this.2⟩
theorem F2.oneC {ρ : Rho} {l m : List Value} (h : F2 (LRel ρ) l m) : ∀ v ∈ m, Vai.oneC v = true := by
 induction h with
 | nil => simp
 | cons h t ih =>
  intro v hv
  rcases List.mem_cons.1 hv with rfl | hv
  · exact h.oneC
  · exact ih v hv
theorem run_loadCellsFrom {P : Program} {w : World} (g o : Nat) : ∀ (vs : List Value) (i : Nat) (acc : Array Value), (∀ j v, vs[j]? = some v → w.cell? ⟨g, o + i + j, none⟩ = some v) →
  (loadCellsFrom ⟨g, o, none⟩ i vs.length acc).run P w = .ok (acc ++ vs.toArray) w := by
 intro vs
 induction vs with
 | nil => intro i acc _; simp [loadCellsFrom]
 | cons v vs ih =>
  intro i acc hc
  have h0 := hc 0 v (by simp)
  simp only [List.length_cons, loadCellsFrom, addr_add, Sem.run_bind, run_load]
  rw [show o + i + 0 = o + i from rfl] at h0
  simp only [h0, Result.andThen_ok]
  rw [ih (i + 1) (acc.push v)]
  · simp
  ·
   intro j u hj
   have := hc (j + 1) u (by simpa using hj)
   rw [show o + (i + 1) + j = o + i + (j + 1) from by omega]; exact this
theorem run_loadCells {P : Program} {w : World} {g o : Nat} {vs : List Value} (hc : ∀ (j : Nat) v, vs[j]? = some v → w.cell? ⟨g, o + j, none⟩ = some v) :
  (loadCells ⟨g, o, none⟩ vs.length).run P w = .ok vs.toArray w := by
 have := run_loadCellsFrom (P := P) g o vs 0 #[] (by simpa using hc)
 simpa [loadCells] using this
def upd (ρ : Rho) (n : Nat) (I : Img) : Rho := fun x => if x = n then some I else ρ x
theorem upd_same (ρ : Rho) (n : Nat) (I : Img) : upd ρ n I n = some I := if_pos rfl
theorem upd_other (ρ : Rho) (n : Nat) (I : Img) {x : Nat} (h : x ≠ n) : upd ρ n I x = ρ x := if_neg h
theorem HRel.fresh {ρ : Rho} {h : Heap} {w : World} (H : HRel ρ h w) : ρ h.next = none := by
 cases e : ρ h.next with
 | none => rfl
 | some I =>
  obtain ⟨B, C, _, _, hb, _⟩ := H.dom _ I e
  omega
theorem HRel.ext_upd {ρ : Rho} {h : Heap} {w : World} (H : HRel ρ h w) (I : Img) : Ext ρ (upd ρ h.next I) := by
 intro b J e
 rw [upd_other]
 · exact e
 · rintro rfl; rw [H.fresh] at e; cases e
theorem HRel.world {ρ : Rho} {h : Heap} {w w' : World} (H : HRel ρ h w) (hs : w.heap.size ≤ w'.heap.size)
  (hc : ∀ b I, ρ b = some I → ∀ j, j < I.m → w'.cell? ⟨I.g, j, none⟩ = w.cell? ⟨I.g, j, none⟩)
  (hf : ∀ b I, ρ b = some I → ∀ j, I.o ≤ j → j < I.m → w.frozen? ⟨I.g, j, none⟩ = false → w'.frozen? ⟨I.g, j, none⟩ = false)
  (hl : ∀ (g : Nat) (o : Obj), noCells o = true → w.heap[g]? = some o → w'.heap[g]? = some o) (hst : ∀ b I, ρ b = some I → I.z ≠ none → ∀ o, w.heap[I.g]? = some o → w'.heap[I.g]? = some o) (hk : ∀ k, TG k → k < w.heap.size → w'.heap[k]? = w.heap[k]?) : HRel ρ h w' := by
 refine ⟨⟨H.nx.1.go fun k h => hk k h (H.nx.1.lt h), H.nx.2⟩, H.dom, ?_, ?_, H.one, H.fin, H.glob, fun b I L e1 e2 => (H.lp b I L e1 e2).go (Ext.refl ρ) fun o n h => hl _ o n h, H.ld, H.li, H.lz, fun b I o T e1 ez => by
  obtain ⟨s1, s2, s3, s4⟩ := H.st b I o T e1 ez
  exact ⟨s1, s2, s3, fun B C h1 h2 ht => hst b I e1 (by rw [ez]; simp) o (s4 B C h1 h2 ht)⟩⟩
 ·
  intro b I B e1 e2
  obtain ⟨k1, k2, k3⟩ := H.img b I B e1 e2
  exact ⟨by omega, fun j ho hj => by rw [hc b I e1 j hj]; exact k2 j ho hj, fun hr j ho hj => hf b I e1 j ho hj (k3 hr j ho hj)⟩
 ·
  intro b I B C e1 e2 e3 e4 i v hi hv
  obtain ⟨v', h1, h2⟩ := H.val b I B C e1 e2 e3 e4 i v hi hv
  obtain ⟨B', C', d1, d2, _, _, _, _, _, d8⟩ := H.dom b I e1
  rw [e2] at d1; cases d1
  exact ⟨v', by rw [hc b I e1 _ (by omega)]; exact h1, h2⟩
theorem HRel.add {ρ : Rho} {h : Heap} {w : World} (H : HRel ρ h w) (cells : Tr Value) (size esz c mv : Nat) (w' : World) (I : Img) (hn : (∀ k, TG k → k < w.heap.size → w'.heap[k]? = w.heap[k]?) ∧ ¬ TG I.g)
  (hcn : c ≤ h.next) (hs : w.heap.size ≤ w'.heap.size) (hIg : I.g < w'.heap.size)
  (hcell : ∀ j, I.o ≤ j → j < I.m → ∃ v, w'.cell? ⟨I.g, j, none⟩ = some v) (hfz : ∀ j, I.o ≤ j → j < I.m → w'.frozen? ⟨I.g, j, none⟩ = false)
  (he : I.e = esz) (hsz : I.o + size ≤ I.m)
  (hval : ∀ i v, i < size → cells.get i = some v → ∃ v', w'.cell? ⟨I.g, I.o + i, none⟩ = some v' ∧ LRel (upd ρ h.next I) v v')
  (hold : ∀ b J, ρ b = some J → ∀ j, j < J.m → ((∃ v, w.cell? ⟨J.g, j, none⟩ = some v) → ∃ v, w'.cell? ⟨J.g, j, none⟩ = some v) ∧ (w.frozen? ⟨J.g, j, none⟩ = false → w'.frozen? ⟨J.g, j, none⟩ = false))
  (hkeep : ∀ b J B C, ρ b = some J → h.blks.get b = some B → h.cls.get B.cls = some C → C.minv ≤ b → (B.cls = c → mv ≤ b) → ∀ i, i < B.size → w'.cell? ⟨J.g, J.o + i, none⟩ = w.cell? ⟨J.g, J.o + i, none⟩)
  (hclass : ∀ b J B, ρ b = some J → h.blks.get b = some B → J.g = I.g → B.cls = c)
  (hmin : ∀ b J B C, ρ b = some J → h.blks.get b = some B → B.cls = c → h.cls.get c = some C → mv ≤ b → C.minv ≤ b)
  (hfin : ∀ b J B, ρ b = some J → h.blks.get b = some B → B.cls = c → mv ≤ b → J.g = I.g → J.o + B.size ≤ I.o + size)
  (hloop : ∀ (g : Nat) (o : Obj), noCells o = true → w.heap[g]? = some o → w'.heap[g]? = some o)
  (hz : I.z = none) (hobj : ∀ b J B, ρ b = some J → h.blks.get b = some B → B.cls ≠ c → ∀ o, w.heap[J.g]? = some o → w'.heap[J.g]? = some o) :
  HRel (upd ρ h.next I) { blks := h.blks.put h.next ⟨cells, size, esz, c, false⟩, next := h.next + 1, cls := h.cls.put c ⟨h.next, mv⟩, objs := h.objs } w' := by
 have hext := H.ext_upd I
 have bnew : (h.blks.put h.next (⟨cells, size, esz, c, false⟩ : Blk)).get h.next = some ⟨cells, size, esz, c, false⟩ := Tr.get_put_same (by omega)
 have cnew : (h.cls.put c (⟨h.next, mv⟩ : Cls)).get c = some ⟨h.next, mv⟩ := Tr.get_put_same (by omega)
 have split1 : ∀ b J, upd ρ h.next I b = some J → (b = h.next ∧ J = I) ∨ (b ≠ h.next ∧ ρ b = some J) := by
  intro b J e
  by_cases hb : b = h.next
  · subst hb; rw [upd_same] at e; exact .inl ⟨rfl, (Option.some.inj e).symm⟩
  · rw [upd_other _ _ _ hb] at e; exact .inr ⟨hb, e⟩
 have bold : ∀ b, b ≠ h.next → (h.blks.put h.next (⟨cells, size, esz, c, false⟩ : Blk)).get b = h.blks.get b := fun b hb => Tr.get_put_other hb
 refine ⟨⟨H.nx.1.go fun k h => hn.1 k h (H.nx.1.lt h), fun b J e => by
  rcases split1 b J e with ⟨_, rfl⟩ | ⟨_, e'⟩
  · exact hn.2
  · exact H.nx.2 b J e'⟩, ?_, ?_, ?_, ?_, ?_, ?_, ?_, fun b L e => Nat.lt_succ_of_lt (H.ld b L e), ?_, ?_, ?_⟩
 ·
  intro b J e
  rcases split1 b J e with ⟨rfl, rfl⟩ | ⟨hb, e'⟩
  · exact ⟨_, _, bnew, cnew, by simp, he.symm, by simp; omega, Nat.le_refl _, by simp, hsz⟩
  ·
   obtain ⟨B, C, d1, d2, d3, d4, d5, d6, d7, d8⟩ := H.dom b J e'
   by_cases hc : B.cls = c
   · exact ⟨B, ⟨h.next, mv⟩, by rw [bold b hb]; exact d1, by rw [hc]; exact cnew, by simp; omega, d4, by simp; omega, by simp; omega, by simp, d8⟩
   · exact ⟨B, C, by rw [bold b hb]; exact d1, by rw [Tr.get_put_other hc]; exact d2, by simp; omega, d4, by simp; omega, d6, by simp; omega, d8⟩
 ·
  intro b J B e e2
  rcases split1 b J e with ⟨rfl, rfl⟩ | ⟨hb, e'⟩
  · exact ⟨hIg, hcell, fun _ => hfz⟩
  ·
   rw [bold b hb] at e2
   obtain ⟨k1, k2, k3⟩ := H.img b J B e' e2
   exact ⟨by omega, fun j ho hj => (hold b J e' j hj).1 (k2 j ho hj), fun hr j ho hj => (hold b J e' j hj).2 (k3 hr j ho hj)⟩
 ·
  intro b J B C e e2 e3 e4 i v hi hv
  rcases split1 b J e with ⟨rfl, rfl⟩ | ⟨hb, e'⟩
  ·
   rw [bnew] at e2; cases e2
   exact hval i v hi hv
  ·
   rw [bold b hb] at e2
   obtain ⟨B', C', d1, d2, _⟩ := H.dom b J e'
   rw [e2] at d1; cases d1
   by_cases hc : B.cls = c
   ·
    rw [hc, cnew] at e3; cases e3
    rw [hc] at d2
    have hm := hmin b J B C' e' e2 hc d2 e4
    obtain ⟨v', h1, h2⟩ := H.val b J B C' e' e2 (by rw [hc]; exact d2) hm i v hi hv
    exact ⟨v', by rw [hkeep b J B C' e' e2 (by rw [hc]; exact d2) hm (fun _ => e4) i hi]; exact h1, h2.ext hext⟩
   ·
    rw [Tr.get_put_other hc] at e3
    obtain ⟨v', h1, h2⟩ := H.val b J B C e' e2 e3 e4 i v hi hv
    exact ⟨v', by rw [hkeep b J B C e' e2 e3 e4 (fun x => absurd x hc) i hi]; exact h1, h2.ext hext⟩
 ·
  intro b₁ b₂ J₁ J₂ B₁ B₂ e1 e2 eg h1 h2
  rcases split1 b₁ J₁ e1 with ⟨rfl, rfl⟩ | ⟨hb1, e1'⟩
  ·
   rw [bnew] at h1; cases h1
   rcases split1 b₂ J₂ e2 with ⟨rfl, rfl⟩ | ⟨hb2, e2'⟩
   · rw [bnew] at h2; cases h2; rfl
   ·
    rw [bold b₂ hb2] at h2
    exact (hclass b₂ J₂ B₂ e2' h2 eg.symm).symm
  ·
   rw [bold b₁ hb1] at h1
   rcases split1 b₂ J₂ e2 with ⟨rfl, rfl⟩ | ⟨hb2, e2'⟩
   ·
    rw [bnew] at h2; cases h2
    exact hclass b₁ J₁ B₁ e1' h1 eg
   ·
    rw [bold b₂ hb2] at h2
    exact H.one b₁ b₂ J₁ J₂ B₁ B₂ e1' e2' eg h1 h2
 ·
  intro b J B C K D e e2 e3 e4 e5 e6 e7
  rcases split1 b J e with ⟨rfl, rfl⟩ | ⟨hb, e'⟩
  ·
   rw [bnew] at e2; cases e2
   rw [cnew] at e3; cases e3
   rw [upd_same] at e5; cases e5
   rw [bnew] at e7; cases e7
   exact Nat.le_refl _
  ·
   rw [bold b hb] at e2
   obtain ⟨B', C', d1, d2, d3, _, _, d6, d7, _⟩ := H.dom b J e'
   rw [e2] at d1; cases d1
   by_cases hc : B.cls = c
   ·
    rw [hc, cnew] at e3; cases e3
    simp only at e5 e7
    rw [upd_same] at e5; cases e5
    rw [bnew] at e7; cases e7
    exact hfin b J B e' e2 hc e4 e6.symm
   ·
    rw [Tr.get_put_other hc] at e3
    rw [e3] at d2; cases d2
    have hne : C.top ≠ h.next := by omega
    rw [upd_other _ _ _ hne] at e5
    rw [bold _ hne] at e7
    exact H.fin b J B C K D e' e2 e3 e4 e5 e6 e7
 ·
  intro g B e1 e2
  by_cases hb : g = h.next
  · subst hb; rw [bnew] at e1; cases e1; cases e2
  ·
   rw [bold g hb] at e1
   obtain ⟨J, j1, j2, j3⟩ := H.glob g B e1 e2
   exact ⟨J, hext _ _ j1, j2, j3⟩
 ·
  intro b J L e e2
  rcases split1 b J e with ⟨rfl, rfl⟩ | ⟨hb, e'⟩
  · exact absurd (H.ld _ L e2) (Nat.lt_irrefl _)
  · exact (H.lp b J L e' e2).go hext fun o n h => hloop _ o n h
 ·
  intro b b' J J' L L' e1 e2 l1 l2 eg
  rcases split1 b J e1 with ⟨rfl, rfl⟩ | ⟨hb, e1'⟩
  · exact absurd (H.ld _ L l1) (Nat.lt_irrefl _)
  ·
   rcases split1 b' J' e2 with ⟨rfl, rfl⟩ | ⟨hb', e2'⟩
   · exact absurd (H.ld _ L' l2) (Nat.lt_irrefl _)
   · exact H.li b b' J J' L L' e1' e2' l1 l2 eg
 ·
  intro b J L e e2
  rcases split1 b J e with ⟨rfl, rfl⟩ | ⟨hb, e'⟩
  · exact absurd (H.ld _ L e2) (Nat.lt_irrefl _)
  · exact H.lz b J L e' e2
 ·
  intro b J o T e ez
  rcases split1 b J e with ⟨rfl, rfl⟩ | ⟨hb, e'⟩
  · rw [hz] at ez; cases ez
  ·
   obtain ⟨s1, s2, s3, s4⟩ := H.st b J o T e' ez
   refine ⟨Nat.lt_succ_of_lt s1, by rw [upd_other _ _ _ (by omega)]; exact s2, s3, fun B C h1 h2 ht => ?_⟩
   rw [bold b hb] at h1
   by_cases hc : B.cls = c
   ·
    rw [hc, cnew] at h2
    simp only [Option.some.injEq] at h2
    subst h2
    have ht : h.next = T := ht
    omega
   ·
    rw [Tr.get_put_other hc] at h2
    exact hobj b J B e' h1 hc o (s4 B C h1 h2 ht)
end
end Go.Vai

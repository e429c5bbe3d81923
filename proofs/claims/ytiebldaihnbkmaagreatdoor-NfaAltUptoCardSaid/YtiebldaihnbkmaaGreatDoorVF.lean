/-
  What is proved here: the operations of a plain interpreter of Go code that read, write or make memory (load, store, new variables, slices that are built or made, append, copy, strings and bytes) are matched by the machine's (part F). No conditions.
-/
import Derived.Test.YtiebldaihnbkmaaGreatDoorVE
import Derived.Lib.ConvBytes
import Derived.Laws.BytesArg
set_option linter.unusedVariables false
set_option linter.unusedSimpArgs false
namespace Go.Vai
noncomputable section
def SM (P : Program) (ρ : Rho) (w : World) (s : Sem Value) (v : Value) (h' : Heap) : Prop :=
 ∃ v' ρ' w', s.run P w = .ok v' w' ∧ VRel ρ' v v' ∧ HRel ρ' h' w' ∧ Grow ρ ρ' w ∧ Fr ρ w w'
theorem SP.toSM {P : Program} {ρ : Rho} {h : Heap} {w : World} {s : Sem Value} {v : Value} (k : SP P ρ s v) (H : HRel ρ h w) : SM P ρ w s v h := by
 obtain ⟨v', h1, h2⟩ := k
 exact ⟨v', ρ, w, h1 w, h2, H, .refl _ _, .refl _ _⟩
theorem Fr.alloc (ρ : Rho) (w : World) (o : Obj) : Fr ρ w (w.alloc o) :=
 ⟨rfl, rfl, rfl, by simp, fun k hk _ => by
  show (w.heap.push o)[k]? = w.heap[k]?
  rw [Array.getElem?_push, if_neg (by omega)]⟩
theorem obj_alloc {w : World} {o : Obj} {g : Nat} {r : Obj} (h : w.heap[g]? = some r) : (w.alloc o).heap[g]? = some r := by
 have hlt : g < w.heap.size := (Array.getElem?_eq_some_iff.1 h).1
 show (w.heap.push o)[g]? = _
 rw [Array.getElem?_push, if_neg (by omega)]; exact h
theorem Grow.upd {ρ : Rho} {h : Heap} {w : World} (H : HRel ρ h w) (I : Img) (hg : w.heap.size ≤ I.g ∨ ∃ b₀ I₀, ρ b₀ = some I₀ ∧ I₀.g = I.g) (hz : I.z = none) : Grow ρ (upd ρ h.next I) w :=
 ⟨H.ext_upd I, fun b J e => by
  by_cases hb : b = h.next
  · subst hb; rw [upd_same] at e; cases e; exact hg
  · rw [upd_other _ _ _ hb] at e; exact .inr ⟨b, J, e, rfl⟩, fun b J e n => by
  by_cases hb : b = h.next
  · subst hb; rw [upd_same] at e; cases e; exact absurd hz n
  · rw [upd_other _ _ _ hb] at e; exact e⟩
theorem cell?_new (w : World) (arr : Array Value) (et : TypeId) (j : Nat) : (w.alloc (.cells arr et)).cell? ⟨w.heap.size, j, none⟩ = arr[j]? := by
 simp [World.cell?, World.alloc, -World.alloc_eq]
theorem frozen?_new (w : World) (arr : Array Value) (et : TypeId) (j : Nat) : (w.alloc (.cells arr et)).frozen? ⟨w.heap.size, j, none⟩ = false := by
 simp [World.frozen?, World.alloc, -World.alloc_eq]
theorem img_old {ρ : Rho} {h : Heap} {w : World} (H : HRel ρ h w) {b : Nat} {I : Img} (e : ρ b = some I) : I.g < w.heap.size := by
 obtain ⟨B, C, d1, _⟩ := H.dom b I e
 exact (H.img b I B e d1).1
theorem tg_alloc {ρ : Rho} {h : Heap} {w : World} (H : HRel ρ h w) {o : Obj} {o' m e : Nat} {z : Option (Obj × Nat)} : (∀ k, TG k → k < w.heap.size → (w.alloc o).heap[k]? = w.heap[k]?) ∧ ¬ TG (Img.mk w.heap.size o' m e z).g :=
 ⟨fun k _ hk => by
  show (w.heap.push o)[k]? = _
  rw [Array.getElem?_push, if_neg (by omega)], fun t => Nat.lt_irrefl _ (H.nx.1.lt t)⟩
theorem new_sound {ρ : Rho} {h h' : Heap} {w : World} (H : HRel ρ h w) {cells : Tr Value} {size esz b : Nat} (e : h.new cells size esz = some (b, h')) (arr : Array Value) (et : TypeId) (hs : size ≤ arr.size)
  (hc : ∀ i v, i < size → cells.get i = some v → ∃ v', arr[i]? = some v' ∧ LRel ρ v v') :
  ∃ ρ', ρ' b = some ⟨w.heap.size, 0, arr.size, esz, none⟩ ∧ HRel ρ' h' (w.alloc (.cells arr et)) ∧ Grow ρ ρ' w ∧ Fr ρ w (w.alloc (.cells arr et)) := by
 unfold Heap.new at e
 split at e
 case h_2 => cases e
 rename_i hn
 have hn : True := trivial
 simp only [Option.some.injEq, Prod.mk.injEq] at e
 obtain ⟨rfl, rfl⟩ := e
 refine ⟨upd ρ h.next ⟨w.heap.size, 0, arr.size, esz, none⟩, upd_same _ _ _, ?_, Grow.upd H _ (.inl (Nat.le_refl _)) rfl, Fr.alloc ρ w _⟩
 have old : ∀ b J, ρ b = some J → ∀ i, (w.alloc (.cells arr et)).cell? ⟨J.g, i, none⟩ = w.cell? ⟨J.g, i, none⟩ := fun b J e i =>
  World.cell?_alloc_lt w _ _ (img_old H e)
 refine H.add cells size esz h.next h.next _ ⟨w.heap.size, 0, arr.size, esz, none⟩ (tg_alloc H) (Nat.le_refl _) (by simp) (by simp) ?_ ?_ rfl (by simpa using hs) ?_ ?_ ?_ ?_ ?_ ?_ (fun g r _ hh => obj_alloc hh) rfl (fun _ _ _ _ _ _ _ hh => obj_alloc hh)
 ·
  intro j _ hj
  exact ⟨arr[j], by rw [cell?_new]; exact Array.getElem?_eq_getElem hj⟩
 · intro j _ _; exact frozen?_new w arr et j
 ·
  intro i v hi hv
  obtain ⟨v', h1, h2⟩ := hc i v hi hv
  exact ⟨v', by rw [cell?_new, Nat.zero_add]; exact h1, h2.ext (H.ext_upd _)⟩
 ·
  intro b J e j hj
  refine ⟨fun ⟨v, hv⟩ => ⟨v, by rw [old b J e]; exact hv⟩, fun hf => ?_⟩
  rw [World.frozen?_alloc_old w _ _ (Nat.ne_of_lt (img_old H e))]; exact hf
 · intro b J B C e _ _ _ _ i _; exact old b J e _
 · intro b J B e _ hg; have := img_old H e; simp at hg; omega
 ·
  intro b J B C e hB hc' _ hm
  obtain ⟨B', C', d1, _, d3, _⟩ := H.dom b J e
  omega
 · intro b J B e _ _ hm; have := img_old H e; obtain ⟨_, _, _, _, d3, _⟩ := H.dom b J e; omega
def ptrTo (r : Option (Nat × Heap)) : Option (Value × Heap) := match r with
 | some (b, h) => some (.pointer (some ⟨b, 0, none⟩), h)
 | none => none
def short (l : List Value) : Bool := Nat.ble 0 l.length
def aBox (h : Heap) (v : Value) : Option (Value × Heap) :=
 match acells v with
 | some l => match short l with
  | true => ptrTo (h.new (trOf 0 .leaf l) l.length 0)
  | false => none
 | none => none
theorem tr_of_list {l : List Value} (hl : short l = true) {i : Nat} {v : Value} (h : (trOf 0 .leaf l).get i = some v) : l[i]? = some v := by
 rw [trOf_get l 0 .leaf i (Nat.zero_le _)] at h
 split at h
 · simpa using h
 · cases h
theorem newVar_sound {P : Program} {ρ : Rho} {h h' : Heap} {w : World} (H : HRel ρ h w) {l : List Value} {arr : Array Value} {v : Value} (elem : TypeId) (hl : short l = true)
  (e : ptrTo (h.new (trOf 0 .leaf l) l.length 0) = some (v, h')) (r : F2 (LRel ρ) l arr.toList) : SM P ρ w (do pure (.pointer (some (← newRow elem arr)))) v h' := by
 unfold ptrTo at e
 split at e
 case h_2 => cases e
 rename_i b h₁ hnew
 cases e
 have hlen : l.length = arr.size := by have := r.length; simpa using this
 obtain ⟨ρ', p1, p2, p3, p4⟩ := new_sound H hnew arr elem (by omega) (fun i v hi hv => by
  obtain ⟨v', q1, q2⟩ := r.get i v (tr_of_list hl hv)
  exact ⟨v', by simpa using q1, q2⟩)
 refine ⟨.pointer (some ⟨w.heap.size, 0, none⟩), ρ', w.alloc (.cells arr elem), ?_, ?_, p2, p3, p4⟩
 · simp [newRow]
 ·
  have := VRel.ptr (i := 0) p1
  simpa using this
theorem aBox_sound {P : Program} {ρ : Rho} {h h' : Heap} {w : World} (H : HRel ρ h w) {elem : TypeId} {x x' v : Value} (e : aBox h x = some (v, h')) (r : VRel ρ x x') : SM P ρ w (Instr.box elem x') v h' := by
 unfold aBox at e
 split at e
 case h_2 => cases e
 rename_i l hl
 split at e
 case h_2 => cases e
 rename_i hs
 exact newVar_sound (P := P) H elem hs e (acells_sound hl r)
def aZero (P : Program) (t : TypeId) : Option Value := match P.info? t with
 | some i => match i.zero with
  | some z => match cellsPlain z with
   | true => some z
   | false => none
  | none => none
 | none => none
theorem run_zero {P : Program} {t : TypeId} {z : Value} (h : aZero P t = some z) (w : World) : (zeroValue t).run P w = .ok z w := by
 unfold aZero at h
 split at h
 case h_2 => cases h
 rename_i i hi
 split at h
 case h_2 => cases h
 rename_i z' hz
 split at h
 case h_2 => cases h
 cases h
 simp only [zeroValue, Sem.run_bind, run_typeInfo_some hi, Result.andThen_ok, hz]; rfl
theorem aZero_plain {P : Program} {t : TypeId} {z : Value} (h : aZero P t = some z) : cellsPlain z = true := by
 unfold aZero at h
 split at h
 case h_2 => cases h
 split at h
 case h_2 => cases h
 split at h
 case h_2 => cases h
 rename_i hp
 cases h; exact hp
def aAlloc (P : Program) (h : Heap) (elem : TypeId) : Option (Value × Heap) :=
 match aZero P elem with
 | some z => aBox h z
 | none => none
theorem aAlloc_sound {P : Program} {ρ : Rho} {h h' : Heap} {w : World} (H : HRel ρ h w) {elem : TypeId} {v : Value} (e : aAlloc P h elem = some (v, h')) : SM P ρ w (Instr.alloc elem true (.tuple #[])) v h' := by
 unfold aAlloc at e
 split at e
 case h_2 => cases e
 rename_i z hz
 have := aBox_sound (P := P) H (elem := elem) e (.of_cellsPlain (aZero_plain hz))
 obtain ⟨v', ρ', w', h1, h2⟩ := this
 refine ⟨v', ρ', w', ?_, h2⟩
 simp only [Instr.alloc, Sem.run_bind, run_zero hz, Result.andThen_ok]
 exact h1
def zeroCellsL (z : Array Value) (n : Nat) : List Value := (List.range n).map (z[· % z.size]!)
theorem zeroCellsL_arr (z : Array Value) (n : Nat) : ((Array.range n).map (z[· % z.size]!)).toList = zeroCellsL z n := by
 simp [zeroCellsL]
theorem zeroCellsL_plain {z : Array Value} (hz : z.toList.all leafPlain = true) {n : Nat} (hn : n = 0 ∨ 0 < z.size) {ρ : Rho} : F2 (LRel ρ) (zeroCellsL z n) (zeroCellsL z n) := by
 refine F2.refl _ fun a ha => ?_
 simp only [zeroCellsL, List.mem_map, List.mem_range] at ha
 obtain ⟨i, hi, rfl⟩ := ha
 have hzs : 0 < z.size := by omega
 have hlt : i % z.size < z.size := Nat.mod_lt _ hzs
 refine .plain ?_
 rw [getElem!_pos z _ hlt]
 exact List.all_eq_true.1 hz _ (by simp)
def sliceOf (n c : Nat) (r : Option (Nat × Heap)) : Option (Value × Heap) := match r with
 | some (b, h) => some (.slice (some ⟨b, 0, none⟩) n c, h)
 | none => none
theorem cellsAll_of {z : Value} (h : cellsPlain z = true) : z.cells.toList.all leafPlain = true := by
 cases z <;> first | exact h | (simp [cellsPlain, Value.cells] at h ⊢; exact h) | (simp [cellsPlain, leafPlain] at h)
def aBuildSlice (P : Program) (h : Heap) (t : TypeId) (len : Nat) (parts : List (Nat × Value)) : Option (Value × Heap) :=
 match P.underlying t with
 | some (.slice elem) => match sz P elem, aZero P elem with
  | some size, some z =>
   match Nat.ble (len * size) 16777216 && Nat.beq z.cells.size size && Nat.blt 0 size with
   | true => match aFill (fun i => some (i * size, size)) (zeroCellsL z.cells (len * size)) parts with
    | some l => sliceOf len len (h.new (trOf 0 .leaf l) (len * size) size)
    | none => none
   | false => none
  | _, _ => none
 | _ => none
theorem sliceNew_sound {P : Program} {ρ : Rho} {h h' : Heap} {w : World} (H : HRel ρ h w) {l : List Value} {arr : Array Value} {v : Value} {n c size : Nat} (elem : TypeId) (hl : short l = true) (hlen : l.length = c * size) (hnc : n ≤ c)
  (e : sliceOf n c (h.new (trOf 0 .leaf l) (c * size) size) = some (v, h')) (r : F2 (LRel ρ) l arr.toList) : SM P ρ w (do pure (.slice (some (← newRow elem arr)) n c)) v h' := by
 unfold sliceOf at e
 split at e
 case h_2 => cases e
 rename_i b h₁ hnew
 cases e
 have hlen2 : l.length = arr.size := by have := r.length; simpa using this
 obtain ⟨ρ', p1, p2, p3, p4⟩ := new_sound H hnew arr elem (by omega) (fun i v hi hv => by
  obtain ⟨v', q1, q2⟩ := r.get i v (tr_of_list hl hv)
  exact ⟨v', by simpa using q1, q2⟩)
 refine ⟨.slice (some ⟨w.heap.size, 0, none⟩) n c, ρ', w.alloc (.cells arr elem), ?_, ?_, p2, p3, p4⟩
 · simp [newRow]
 ·
  have : LRel ρ' (.slice (some ⟨b, 0, none⟩) n c) (.slice (some ⟨w.heap.size, 0 + 0, none⟩) n c) := LRel.slice p1 hnc (Nat.le_refl _) (by simp; omega)
  exact .one (.one this)
theorem aBuildSlice_sound {P : Program} {ρ : Rho} {h h' : Heap} {w : World} (H : HRel ρ h w) {t : TypeId} {len : Nat} {parts : List (Nat × Value)} {parts' : Array (Nat × Value)} {v : Value}
  (e : aBuildSlice P h t len parts = some (v, h')) (r : F2 (fun p p' => p.1 = p'.1 ∧ VRel ρ p.2 p'.2) parts parts'.toList) : SM P ρ w (Instr.buildSlice t len parts') v h' := by
 unfold aBuildSlice at e
 split at e
 case h_2 => cases e
 rename_i elem hu
 split at e
 case h_2 => cases e
 rename_i size z hs hz
 split at e
 case h_2 => cases e
 rename_i hck
 simp only [Bool.and_eq_true, Nat.ble_eq, Nat.blt_eq] at hck
 obtain ⟨⟨hk1, hk2⟩, hk3⟩ := hck
 have hk2 : z.cells.size = size := Nat.eq_of_beq_eq_true hk2
 split at e
 case h_2 => cases e
 rename_i l hf
 have hzc := zeroCellsL_plain (ρ := ρ) (cellsAll_of (aZero_plain hz)) (n := len * size) (.inr (by omega))
 rw [← zeroCellsL_arr] at hzc
 obtain ⟨l', q1, q2, q3⟩ := aFill_sound parts parts'.toList _ l ((Array.range (len * size)).map (z.cells[· % z.cells.size]!)) hf r (by
  have := hzc; rw [zeroCellsL_arr] at this ⊢; exact this)
 have hll : l.length = len * size := by rw [q3]; simp [zeroCellsL]
 obtain ⟨v', ρ', w', h1, h2⟩ := sliceNew_sound (P := P) H elem (l := l) (arr := l') (by simp [short]) hll (Nat.le_refl len) e q2
 refine ⟨v', ρ', w', ?_, h2⟩
 simp only [Instr.buildSlice, Sem.run_bind, run_underlying_some hu, run_sz hs, Result.andThen_ok]
 rw [if_neg (by omega)]
 by_cases h0 : len * size = 0
 ·
  have e0 : len = 0 := by
   rcases Nat.mul_eq_zero.1 h0 with h | h
   · exact h
   · omega
  simp only [h0, if_true, Sem.run_pure, Result.andThen_ok, Sem.run_bind]
  have q1' : Instr.fill (fun i => some (i * size, size)) ((Array.range 0).map ((#[] : Array Value)[· % (#[] : Array Value).size]!)) parts'.toList = some l' := by
   have ea : ∀ f : Nat → Value, (Array.range 0).map f = #[] := fun f => Array.toList_inj.1 (by simp)
   rw [← q1, h0, ea, ea]
  rw [q1']
  exact h1
 ·
  simp only [h0, if_false, Sem.run_bind, run_zero hz, Sem.run_pure, Result.andThen_ok]
  rw [q1]
  exact h1
def aMakeSlice (P : Program) (h : Heap) (t : TypeId) (len cap : Value) : Option (Value × Heap) :=
 match P.underlying t with
 | some (.slice elem) => match sz P elem, aZero P elem, P.info? elem with
  | some size, some z, some i => match len, cap with
   | .int _ l, .int _ c =>
    match decide (0 ≤ l) && decide (l ≤ c) && decide (c * i.bytes ≤ 281474976710656) && Nat.ble (c.toNat * size) 100000000 && Nat.beq z.cells.size size && Nat.blt 0 size && decide (c ≤ 1000000000) with
    | true => sliceOf l.toNat c.toNat (h.new (trOf 0 .leaf (zeroCellsL z.cells (c.toNat * size))) (c.toNat * size) size)
    | false => none
   | _, _ => none
  | _, _, _ => none
 | _ => none
theorem wrap_id {n : Int} (h0 : 0 ≤ n) (h1 : n ≤ 1000000000) : IntKind.i64.wrap n = n := by
 unfold IntKind.wrap
 simp [IntKind.bits, IntKind.signed]
 omega
theorem aMakeSlice_sound {P : Program} {ρ : Rho} {h h' : Heap} {w : World} (H : HRel ρ h w) {t : TypeId} {len cap len' cap' : Value} {v : Value}
  (e : aMakeSlice P h t len cap = some (v, h')) (rl : VRel ρ len len') (rc : VRel ρ cap cap') : SM P ρ w (Instr.makeSlice t len' cap') v h' := by
 unfold aMakeSlice at e
 split at e
 case h_2 => cases e
 rename_i elem hu
 split at e
 case h_2 => cases e
 rename_i size z i hs hz hi
 split at e
 case h_2 => cases e
 rename_i k l k' c
 split at e
 case h_2 => cases e
 rename_i hck
 simp only [Bool.and_eq_true, Nat.ble_eq, Nat.blt_eq, decide_eq_true_eq] at hck
 obtain ⟨⟨⟨⟨⟨⟨k1, k2⟩, k3⟩, k4⟩, k5⟩, k6⟩, k7⟩ := hck
 have k5 : z.cells.size = size := Nat.eq_of_beq_eq_true k5
 have := rl.eq_of_plain rfl; subst this
 have := rc.eq_of_plain rfl; subst this
 have hzc := zeroCellsL_plain (ρ := ρ) (cellsAll_of (aZero_plain hz)) (n := c.toNat * size) (.inr (by omega))
 have wl : IntKind.i64.wrap l = l := wrap_id k1 (by omega)
 have wc : IntKind.i64.wrap c = c := wrap_id (by omega) k7
 have hbm : ¬ (281474976710656 < (i.bytes : Int) * c) := by rw [Int.mul_comm]; omega
 by_cases h0 : c.toNat * size = 0
 ·
  obtain ⟨v', ρ', w', h1, h2⟩ := sliceNew_sound (P := P) H elem (l := zeroCellsL z.cells (c.toNat * size)) (arr := (Array.range (c.toNat * size)).map ((#[] : Array Value)[· % (#[] : Array Value).size]!)) (by simp [short]) (by simp [zeroCellsL]) (show l.toNat ≤ c.toNat by omega) e (by
   rw [h0]; simp [zeroCellsL]; exact .nil)
  refine ⟨v', ρ', w', ?_, h2⟩
  simp only [Instr.makeSlice, Sem.run_bind, run_underlying_some hu, run_sz hs, Result.andThen_ok, asInt, asIntOf, Sem.run_pure, run_typeInfo_some hi, wl, wc]
  rw [if_neg (by simp; omega)]
  simp only [Sem.run_bind, run_askRoom, Result.andThen_ok, run_sz hs, if_pos h0, Sem.run_pure]
  exact h1
 ·
  obtain ⟨v', ρ', w', h1, h2⟩ := sliceNew_sound (P := P) H elem (l := zeroCellsL z.cells (c.toNat * size)) (arr := (Array.range (c.toNat * size)).map (z.cells[· % z.cells.size]!)) (by simp [short]) (by simp [zeroCellsL]) (show l.toNat ≤ c.toNat by omega) e (by
   rw [zeroCellsL_arr]; exact hzc)
  refine ⟨v', ρ', w', ?_, h2⟩
  simp only [Instr.makeSlice, Sem.run_bind, run_underlying_some hu, run_sz hs, Result.andThen_ok, asInt, asIntOf, Sem.run_pure, run_typeInfo_some hi, wl, wc]
  rw [if_neg (by simp; omega)]
  simp only [Sem.run_bind, run_askRoom, Result.andThen_ok, run_sz hs, if_neg h0, run_zero hz, Sem.run_pure]
  exact h1
def aLoad (P : Program) (h : Heap) (t : TypeId) (a : Value) : Option Value :=
 match a with
 | .pointer (some ⟨b, i, none⟩) => match isAggB P t with
  | some true => match sz P t with
   | some n => match h.rdL b i n with
    | some l => some (.agg l.toArray)
    | none => none
   | none => none
  | some false => h.rd b i
  | none => none
 | _ => none
theorem aLoad_sound {P : Program} {ρ : Rho} {h : Heap} {w : World} (H : HRel ρ h w) {t : TypeId} {a a' v : Value} (e : aLoad P h t a = some v) (r : VRel ρ a a') : ∃ v', (Instr.loadAt t a').run P w = .ok v' w ∧ VRel ρ v v' := by
 unfold aLoad at e
 split at e
 case h_2 => cases e
 rename_i b i
 obtain ⟨I, hb, rfl⟩ := r.ptr_inv
 split at e
 ·
  rename_i ha
  split at e
  case h_2 => cases e
  rename_i n hn
  split at e
  case h_2 => cases e
  rename_i l hl
  cases e
  obtain ⟨vs', q1, q2, q3⟩ := rdL_sound H hb n i l hl
  refine ⟨.agg vs'.toArray, ?_, .one (.agg q3)⟩
  have := run_loadCells (P := P) (w := w) (g := I.g) (o := I.o + i) (vs := vs') q2
  rw [q1] at this
  simp [Instr.loadAt, Instr.sureAddr, loadVar, run_isAgg_some ha, run_sz hn, this]
 ·
  rename_i ha
  obtain ⟨v', q1, q2⟩ := rd_sound H e hb
  exact ⟨v', by simp [Instr.loadAt, Instr.sureAddr, loadVar, run_isAgg_some ha, q1], .one (.one q2)⟩
 · cases e
def aStore (P : Program) (h : Heap) (t : TypeId) (a x : Value) : Option Heap :=
 match a with
 | .pointer (some ⟨b, i, none⟩) => match acells x, sz P t with
  | some l, some n => match Nat.beq l.length n with
   | true => h.wrL b i l
   | false => none
  | _, _ => none
 | _ => none
theorem aStore_sound {P : Program} {ρ : Rho} {h h' : Heap} {w : World} (H : HRel ρ h w) {t : TypeId} {a a' x x' : Value} (e : aStore P h t a x = some h') (r : VRel ρ a a') (rx : VRel ρ x x') :
  ∃ w', (Instr.storeAt t a' x').run P w = .ok () w' ∧ HRel ρ h' w' ∧ Fr ρ w w' := by
 unfold aStore at e
 split at e
 case h_2 => cases e
 rename_i b i
 obtain ⟨I, hb, rfl⟩ := r.ptr_inv
 split at e
 case h_2 => cases e
 rename_i l n hl hn
 split at e
 case h_2 => cases e
 rename_i hle
 have hle : l.length = n := Nat.eq_of_beq_eq_true hle
 have hcl := acells_sound hl rx
 obtain ⟨p1, p2⟩ := wrL_sound hb l x'.cells.toList h h' w i H e hcl
 refine ⟨_, ?_, p1, setN_fr hb _ _⟩
 have hsz : x'.cells.size = n := by have := hcl.length; simp at this; omega
 simp only [Instr.storeAt, Instr.sureAddr, storeVar, Sem.run_bind, Sem.run_pure, Result.andThen_ok, run_sz hn]
 rw [if_neg (by simp [hsz])]
 exact run_storeCells (P := P) I.g (I.o + i) x'.cells.toList w 0 hcl.oneC (by simpa using p2)
end
end Go.Vai

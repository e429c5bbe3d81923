/-
  What is proved here: append, copy, and the conversions between strings and bytes, of a plain interpreter of Go code, are matched by the machine's (part G). No conditions.
-/
import Derived.Test.YtfcadnhoejlgoaaGreatDoorVE
import Derived.Laws.AppendOwn
set_option linter.unusedVariables false
set_option linter.unusedSimpArgs false
namespace Go.Vai
noncomputable section
def byteCells (s : ByteArray) : List Value := ((s.extract 0 s.size).data.map fun b => Value.int .u8 b.toNat).toList
def aXCells (h : Heap) (e : Nat) : Value → Option (Nat × List Value)
 | .slice (some ⟨b, i, none⟩) n _ => match h.rdL b i (n * e) with
  | some l => some (n, l)
  | none => none
 | .slice none 0 0 => some (0, [])
 | .slice (some ⟨_, _, some _⟩) 0 0 => some (0, [])
 | .string s => some (s.size, byteCells s)
 | _ => none
theorem firstCells_sound {P : Program} {ρ : Rho} {h : Heap} {w : World} (H : HRel ρ h w) {e n : Nat} {x x' : Value} {l : List Value} (hx : aXCells h e x = some (n, l)) (r : VRel ρ x x') :
  (∀ w, (Builtin.lenOf x').run P w = .ok n w) ∧ ∃ l', (Builtin.firstCells e n x').run P w = .ok l'.toArray w ∧ F2 (LRel ρ) l l' := by
 unfold aXCells at hx
 split at hx
 ·
  rename_i b i m c
  split at hx
  case h_2 => cases hx
  rename_i l₁ hl
  simp only [Option.some.injEq, Prod.mk.injEq] at hx
  obtain ⟨rfl, rfl⟩ := hx
  rcases r.slice_inv with ⟨I, c', hb, rfl, _⟩ | ⟨rfl, rfl, a', rfl⟩
  ·
   obtain ⟨vs', q1, q2, q3⟩ := rdL_sound H hb _ i l₁ hl
   have := run_loadCells (P := P) (w := w) (g := I.g) (o := I.o + i) (vs := vs') q2
   rw [q1] at this
   exact ⟨fun _ => rfl, vs', by simp [Builtin.firstCells, this], q3⟩
  ·
   have : l₁ = [] := by have := rdL_length _ _ _ hl; simpa using this
   subst this
   exact ⟨fun _ => rfl, [], by simp [Builtin.firstCells, loadCells, loadCellsFrom], .nil⟩
 ·
  simp only [Option.some.injEq, Prod.mk.injEq] at hx
  obtain ⟨rfl, rfl⟩ := hx
  have := r.eq_of_plain rfl; subst this
  exact ⟨fun _ => rfl, [], by simp [Builtin.firstCells], .nil⟩
 ·
  simp only [Option.some.injEq, Prod.mk.injEq] at hx
  obtain ⟨rfl, rfl⟩ := hx
  obtain ⟨_, _, a', rfl⟩ := r.mark_inv
  exact ⟨fun _ => rfl, [], by simp [Builtin.firstCells, loadCells, loadCellsFrom], .nil⟩
 ·
  rename_i s
  simp only [Option.some.injEq, Prod.mk.injEq] at hx
  obtain ⟨rfl, rfl⟩ := hx
  have := r.eq_of_plain rfl; subst this
  refine ⟨fun _ => rfl, byteCells s, by simp [Builtin.firstCells, byteCells]; exact Array.toList_inj.1 (by simp), F2.refl _ fun a ha => ?_⟩
  simp only [byteCells, Array.toList_map, List.map_eq_nil_iff, List.mem_map] at ha
  obtain ⟨u, _, rfl⟩ := ha
  exact .plain rfl
 · cases hx
def isIntD : TypeDesc → Bool
 | .int _ => true
 | _ => false
def notInt : TypeDesc → Bool
 | .int _ => false
 | _ => true
theorem Grow.undrew {ρ ρ' : Rho} {w : World} (g : Grow ρ ρ' w.drew) : Grow ρ ρ' w := ⟨g.ext, g.new, g.zn⟩
def aAppendTo (h : Heap) (s : Value) (e sLen sCap n : Nat) (new : List Value) : Option (Value × Heap) :=
 match Nat.ble (sLen + n) sCap with
 | true => match s with
  | .slice none 0 0 => some (.slice none 0 0, h)
  | .slice (some ⟨_, _, some _⟩) _ _ => some (markE, h)
  | .slice (some ⟨b, i, none⟩) _ _ => match h.blks.get b with
   | some B => match Nat.beq B.esz e, h.wrL b (i + sLen * e) new with
    | true, some h' => some (.slice (some ⟨b, i, none⟩) (sLen + n) sCap, h')
    | _, _ => none
   | none => none
  | _ => none
 | false => match s with
  | .slice none 0 0 => sliceOf (sLen + n) (sLen + n) (h.new (trOf 0 .leaf new) ((sLen + n) * e) e)
  | .slice (some ⟨_, _, some _⟩) _ _ => sliceOf (sLen + n) (sLen + n) (h.new (trOf 0 .leaf new) ((sLen + n) * e) e)
  | .slice (some ⟨b, i, none⟩) _ _ => match h.rdL b i (sLen * e), h.blks.get b with
   | some old, some B => match Nat.beq B.esz e && Nat.blt B.cls h.next with
    | true => sliceOf (sLen + n) (sLen + n) (h.grow b (Nat.beq (i + sLen * e) B.size) (trOf 0 .leaf (old ++ new)) ((sLen + n) * e) e)
    | false => none
   | _, _ => none
  | _ => none
def aAppend (P : Program) (h : Heap) (argTypes : Array TypeId) (s x : Value) : Option (Value × Heap) :=
  match argTypes[0]?, argTypes[1]? with
  | some st, some xt => match P.underlying st, P.underlying xt with
    | some (.slice elem), some d => match sz P elem, aZero P elem, P.info? elem with
      | some e, some z, some i => match isIntD d with
       | true => match s, x with
        | .slice _ sLen sCap, .int _ j =>
            match decide (0 < j) && decide (j ≤ 100000000) && Nat.ble ((sLen + j.toNat) * e) 100000000 && Nat.ble (sLen + j.toNat) 100000000 && Nat.ble i.bytes 10000 && Nat.beq z.cells.size e && Nat.blt 0 e with
            | true => aAppendTo h s e sLen sCap j.toNat (zeroCellsL z.cells (j.toNat * z.cells.size))
            | false => none
        | _, _ => none
       | false => match s with
        | .slice _ sLen sCap => match aXCells h e x with
          | some (n, new) =>
            match notInt d && Nat.ble ((sLen + n) * e) 100000000 && Nat.ble (sLen + n) 100000000 && Nat.ble i.bytes 10000 && Nat.beq z.cells.size e && Nat.blt 0 e && Nat.beq new.length (n * e) with
            | true => aAppendTo h s e sLen sCap n new
            | false => none
          | none => none
        | _ => none
      | _, _, _ => none
    | _, _ => none
  | _, _ => none
theorem growBy_le (need : Nat) : ∀ (k c : Nat), c ≤ 2 * need + 200 → Builtin.growBy need k c ≤ 2 * need + 200 := by
 intro k
 induction k with
 | zero => intro c h; exact h
 | succ k ih =>
  intro c h
  simp only [Builtin.growBy]
  split
  · exact h
  · exact ih _ (by omega)
theorem nextcap_le {need c : Nat} (h : c < need) : Builtin.nextslicecap need c ≤ 2 * need + 200 := by
 unfold Builtin.nextslicecap
 split
 · omega
 ·
  split
  · omega
  · exact growBy_le need 4 c (by omega)
theorem run_append_fits {P : Program} {w : World} {argTypes : Array TypeId} {ty st xt elem : TypeId} {d : TypeDesc} {e n sLen c : Nat} {base : Option Addr} {x : Value} {new : List Value}
    (h0 : argTypes[0]? = some st) (h1 : argTypes[1]? = some xt) (hs : P.underlying st = some (.slice elem)) (hx : P.underlying xt = some d) (hd : notInt d = true)
    (he : sz P elem = some e) (hlen : ∀ w, (Builtin.lenOf x).run P w = .ok n w) (hnew : (Builtin.firstCells e n x).run P w = .ok new.toArray w) (hfit : sLen + n ≤ c) :
    (Builtin.append_ argTypes ty #[.slice base sLen c, x]).run P w = (match base with
      | some a => (storeCells (a.add (sLen * e)) new).run P w
      | none => .ok () w).andThen fun _ w' => .ok (.slice base (sLen + n) c) w' := by
  unfold Builtin.append_
  simp only [h0, List.getElem?_toArray, List.getElem?_cons_zero, List.getElem?_cons_succ, h1, Sem.run_bind, run_underlying_some hs, run_underlying_some hx, Result.andThen_ok, run_sz he, Sem.run_pure]
  cases d <;> first
    | (cases hd; done)
    | (simp only [Sem.run_pure, Result.andThen_ok, Bool.false_eq_true, if_false, hlen, hfit, if_true, Sem.run_bind, Bool.not_false, hnew]
       cases base <;> simp)
theorem run_append_grows {P : Program} {w : World} {argTypes : Array TypeId} {ty st xt elem : TypeId} {d : TypeDesc} {e n sLen c : Nat} {base : Option Addr} {x z : Value} {i : TypeInfo} {old new : List Value}
    (h0 : argTypes[0]? = some st) (h1 : argTypes[1]? = some xt) (hs : P.underlying st = some (.slice elem)) (hx : P.underlying xt = some d) (hd : notInt d = true)
    (he : sz P elem = some e) (hi : P.info? elem = some i) (hz : aZero P elem = some z) (hlen : ∀ w, (Builtin.lenOf x).run P w = .ok n w) (hnew : (Builtin.firstCells e n x).run P w.drew = .ok new.toArray w.drew)
    (hold : (Builtin.firstCells e sLen (.slice base sLen c)).run P w.drew = .ok old.toArray w.drew) (hfit : ¬ sLen + n ≤ c) (hb : i.bytes ≤ 10000) (hn : sLen + n ≤ 100000000) :
    (Builtin.append_ argTypes ty #[.slice base sLen c, x]).run P w = .ok (.slice (some ⟨w.heap.size, 0, none⟩) (sLen + n) (grownCap w (sLen + n) c elem))
      (w.drew.alloc (.cells (old.toArray ++ new.toArray ++ Builtin.zeroCells z.cells (grownCap w (sLen + n) c elem - (sLen + n))) elem)) := by
  have hcap : ¬ (Builtin.nextslicecap (sLen + n) c * i.bytes > 2 ^ 48) := by
    have h1 := nextcap_le (need := sLen + n) (c := c) (by omega)
    have h2 : Builtin.nextslicecap (sLen + n) c * i.bytes ≤ (2 * (sLen + n) + 200) * 10000 := Nat.mul_le_mul h1 hb
    omega
  have hmax : ¬ (((sLen + n : Nat) : Int) > IntKind.i64.max) := by
    have : IntKind.i64.max = 9223372036854775807 := by decide
    rw [this]; omega
  unfold Builtin.append_
  simp only [h0, List.getElem?_toArray, List.getElem?_cons_zero, List.getElem?_cons_succ, h1, Sem.run_bind, run_underlying_some hs, run_underlying_some hx, Result.andThen_ok, run_sz he, Sem.run_pure]
  cases d <;> first
    | (cases hd; done)
    | (simp only [Sem.run_pure, Result.andThen_ok, Bool.false_eq_true, if_false, hlen, hfit, Sem.run_bind, run_typeInfo_some hi, hmax, false_and, hcap, run_choose, Question.forced, run_askRoom, World.drew_eq, hold, Bool.not_false, if_true, hnew, run_zero hz, newRow, run_newObj, World.alloc_eq, World.size_drew]
       rfl)
theorem run_appendZ_fits {P : Program} {w : World} {argTypes : Array TypeId} {ty st xt elem : TypeId} {d : TypeDesc} {e sLen c : Nat} {j : Int} {k : IntKind} {base : Option Addr} {z : Value} {i : TypeInfo}
    (h0 : argTypes[0]? = some st) (h1 : argTypes[1]? = some xt) (hs : P.underlying st = some (.slice elem)) (hx : P.underlying xt = some d) (hd : isIntD d = true)
    (he : sz P elem = some e) (hi : P.info? elem = some i) (hz : aZero P elem = some z) (hj0 : 0 < j) (hj1 : j ≤ 100000000) (he0 : 0 < e) (hb : i.bytes ≤ 10000) (hfit : sLen + j.toNat ≤ c) :
    (Builtin.append_ argTypes ty #[.slice base sLen c, .int k j]).run P w = (match base with
      | some a => (storeCells (a.add (sLen * e)) (Builtin.zeroCells z.cells j.toNat).toList).run P w
      | none => .ok () w).andThen fun _ w' => .ok (.slice base (sLen + j.toNat) c) w' := by
  have hw : IntKind.i64.wrap j = j := wrap_id (by omega) (by omega)
  have hbm : ¬ (j * (i.bytes : Int) > 2 ^ 48) := by
    have : j * (i.bytes : Int) ≤ 100000000 * 10000 := Int.mul_le_mul hj1 (by omega) (by omega) (by omega)
    omega
  have hnz : ¬ j.toNat * e = 0 := by
    intro hx
    rcases Nat.mul_eq_zero.1 hx with h | h <;> omega
  have hneg : ¬ j < 0 := by omega
  unfold Builtin.append_
  simp only [h0, List.getElem?_toArray, List.getElem?_cons_zero, List.getElem?_cons_succ, h1, Sem.run_bind, run_underlying_some hs, run_underlying_some hx, Result.andThen_ok, run_sz he, Sem.run_pure]
  cases d <;> first
    | (cases hd; done)
    | (simp only [Sem.run_pure, Result.andThen_ok, if_true, asInt, asIntOf, hw, hneg, if_false, run_typeInfo_some hi, hbm, hfit, Sem.run_bind, Bool.not_true, Bool.false_eq_true, hnz, run_zero hz]
       cases base <;> simp)
theorem run_appendZ_grows {P : Program} {w : World} {argTypes : Array TypeId} {ty st xt elem : TypeId} {d : TypeDesc} {e sLen c : Nat} {j : Int} {k : IntKind} {base : Option Addr} {z : Value} {i : TypeInfo} {old : List Value}
    (h0 : argTypes[0]? = some st) (h1 : argTypes[1]? = some xt) (hs : P.underlying st = some (.slice elem)) (hx : P.underlying xt = some d) (hd : isIntD d = true)
    (he : sz P elem = some e) (hi : P.info? elem = some i) (hz : aZero P elem = some z) (hj0 : 0 < j) (hj1 : j ≤ 100000000) (he0 : 0 < e)
    (hold : (Builtin.firstCells e sLen (.slice base sLen c)).run P w.drew = .ok old.toArray w.drew) (hfit : ¬ sLen + j.toNat ≤ c) (hb : i.bytes ≤ 10000) (hn : sLen + j.toNat ≤ 100000000) :
    (Builtin.append_ argTypes ty #[.slice base sLen c, .int k j]).run P w = .ok (.slice (some ⟨w.heap.size, 0, none⟩) (sLen + j.toNat) (grownCap w (sLen + j.toNat) c elem))
      (w.drew.alloc (.cells (old.toArray ++ (Builtin.zeroCells z.cells j.toNat) ++ Builtin.zeroCells z.cells (grownCap w (sLen + j.toNat) c elem - (sLen + j.toNat))) elem)) := by
  have hw : IntKind.i64.wrap j = j := wrap_id (by omega) (by omega)
  have hbm : ¬ (j * (i.bytes : Int) > 2 ^ 48) := by
    have : j * (i.bytes : Int) ≤ 100000000 * 10000 := Int.mul_le_mul hj1 (by omega) (by omega) (by omega)
    omega
  have hnz : ¬ j.toNat * e = 0 := by
    intro hx
    rcases Nat.mul_eq_zero.1 hx with h | h <;> omega
  have hneg : ¬ j < 0 := by omega
  have hcap : ¬ (Builtin.nextslicecap (sLen + j.toNat) c * i.bytes > 2 ^ 48) := by
    have h1 := nextcap_le (need := sLen + j.toNat) (c := c) (by omega)
    have h2 : Builtin.nextslicecap (sLen + j.toNat) c * i.bytes ≤ (2 * (sLen + j.toNat) + 200) * 10000 := Nat.mul_le_mul h1 hb
    omega
  have hmax : ¬ (((sLen + j.toNat : Nat) : Int) > IntKind.i64.max) := by
    have : IntKind.i64.max = 9223372036854775807 := by decide
    rw [this]; omega
  unfold Builtin.append_
  simp only [h0, List.getElem?_toArray, List.getElem?_cons_zero, List.getElem?_cons_succ, h1, Sem.run_bind, run_underlying_some hs, run_underlying_some hx, Result.andThen_ok, run_sz he, Sem.run_pure]
  cases d <;> first
    | (cases hd; done)
    | (simp only [Sem.run_pure, Result.andThen_ok, if_true, asInt, asIntOf, hw, hneg, if_false, run_typeInfo_some hi, hbm, hfit, Sem.run_bind, Bool.not_true, Bool.false_eq_true, hnz, hmax, false_and, hcap, run_choose, Question.forced, run_askRoom, World.drew_eq, hold, run_zero hz, newRow, run_newObj_alloc]
       rfl)
theorem grow_moved {ρ : Rho} {h h' : Heap} {w : World} (H : HRel ρ h w) {cells : Tr Value} {size esz b id : Nat} {atEnd : Bool} {B : Blk} (hB : h.blks.get b = some B) (hcl : B.cls < h.next)
  (e : h.grow b atEnd cells size esz = some (id, h')) (arr : Array Value) (et : TypeId) (hs : size ≤ arr.size)
  (hc : ∀ i v, i < size → cells.get i = some v → ∃ v', arr[i]? = some v' ∧ LRel ρ v v') :
  ∃ ρ', ρ' id = some ⟨w.heap.size, 0, arr.size, esz, none⟩ ∧ HRel ρ' h' (w.alloc (.cells arr et)) ∧ Grow ρ ρ' w ∧ Fr ρ w (w.alloc (.cells arr et)) := by
 unfold Heap.grow at e
 rw [hB] at e
 simp only at e
 split at e
 case h_1 => cases e
 rename_i C hC
 split at e
 case h_2 => cases e
 rename_i hn
 simp only [Bool.and_eq_true, Nat.blt_eq] at hn
 have hn := hn.1
 simp only [Option.some.injEq, Prod.mk.injEq] at e
 obtain ⟨rfl, rfl⟩ := e
 refine ⟨upd ρ h.next ⟨w.heap.size, 0, arr.size, esz, none⟩, upd_same _ _ _, ?_, Grow.upd H _ (.inl (Nat.le_refl _)) rfl, Fr.alloc ρ w _⟩
 have old : ∀ b J, ρ b = some J → ∀ i, (w.alloc (.cells arr et)).cell? ⟨J.g, i, none⟩ = w.cell? ⟨J.g, i, none⟩ := fun b J e i =>
  World.cell?_alloc_lt w _ _ (img_old H e)
 refine H.add cells size esz B.cls _ _ ⟨w.heap.size, 0, arr.size, esz, none⟩ (tg_alloc H) (Nat.le_of_lt hcl) (by simp) (by simp) ?_ ?_ rfl (by simpa using hs) ?_ ?_ ?_ ?_ ?_ ?_ (fun g r _ hh => obj_alloc hh) rfl (fun _ _ _ _ _ _ _ hh => obj_alloc hh)
 ·
  intro j _ hj
  exact ⟨arr[j], by rw [cell?_new]; exact Array.getElem?_eq_getElem hj⟩
 · intro j _ _; exact frozen?_new w arr et j
 ·
  intro i v hi hv
  obtain ⟨v', h1, h2⟩ := hc i v hi hv
  exact ⟨v', by rw [cell?_new, Nat.zero_add]; exact h1, h2.ext (H.ext_upd _)⟩
 ·
  intro b J e j hj
  refine ⟨fun ⟨v, hv⟩ => ⟨v, by rw [old b J e]; exact hv⟩, fun hf => ?_⟩
  rw [World.frozen?_alloc_old w _ _ (Nat.ne_of_lt (img_old H e))]; exact hf
 · intro b J B C e _ _ _ _ i _; exact old b J e _
 · intro b J B e _ hg; have := img_old H e; simp at hg; omega
 ·
  intro b₂ J B₂ C₂ e hB₂ hc₂ hC₂ hm
  rw [hC] at hC₂; cases hC₂
  split at hm
  · exact hm
  · obtain ⟨_, _, _, _, d3, _⟩ := H.dom b₂ J e; omega
 · intro b J B e _ _ hm hg; have := img_old H e; simp at hg; omega
theorem grow_inplace {ρ : Rho} {h h' : Heap} {w : World} (H : HRel ρ h w) {b id i : Nat} {atEnd : Bool} {B : Blk} {I : Img} {old new old' new' : List Value} {size : Nat} (hB : h.blks.get b = some B) (hb : ρ b = some I) (hro : B.ro = false)
  (hat : atEnd = true → i + old.length = B.size) (hsize : size = old.length + new.length) (hsh : size < 1000000000) (hroom : I.o + i + size ≤ I.m)
  (e : h.grow b atEnd (trOf 0 .leaf (old ++ new)) size I.e = some (id, h'))
  (rold : F2 (LRel ρ) old old') (rnew : F2 (LRel ρ) new new') (hold : ∀ (j : Nat) v, old'[j]? = some v → w.cell? ⟨I.g, I.o + i + j, none⟩ = some v) :
  ∃ ρ', ρ' id = some ⟨I.g, I.o + i, I.m, I.e, none⟩ ∧ HRel ρ' h' (setN w I.g (I.o + i + old.length) new') ∧ Grow ρ ρ' w ∧ Fr ρ w (setN w I.g (I.o + i + old.length) new') := by
 unfold Heap.grow at e
 rw [hB] at e
 simp only at e
 split at e
 case h_1 => cases e
 rename_i C hC
 split at e
 case h_2 => cases e
 rename_i hn
 simp only [Bool.and_eq_true, Nat.blt_eq] at hn
 have hn := hn.1
 simp only [Option.some.injEq, Prod.mk.injEq] at e
 obtain ⟨rfl, rfl⟩ := e
 obtain ⟨B', C', d1, d2, d3, d4, d5, d6, d7, d8⟩ := H.dom b I hb
 rw [hB] at d1; cases d1
 rw [hC] at d2; cases d2
 obtain ⟨k1, k2, k3⟩ := H.img b I B hb hB
 have hol := rold.length
 have hnl := rnew.length
 refine ⟨upd ρ h.next ⟨I.g, I.o + i, I.m, I.e, none⟩, upd_same _ _ _, ?_, Grow.upd H _ (.inr ⟨b, I, hb, rfl⟩) rfl, setN_fr hb _ _⟩
 have low : ∀ b₂ J B₂, ρ b₂ = some J → h.blks.get b₂ = some B₂ → B₂.cls = B.cls → (match atEnd && Nat.beq b C.top with | true => C.minv | false => h.next) ≤ b₂ → J.g = I.g → J.o + B₂.size ≤ I.o + i + old.length := by
  intro b₂ J B₂ e2 h2 hc2 hm hg
  obtain ⟨_, _, _, _, d3', _⟩ := H.dom b₂ J e2
  split at hm
  ·
   rename_i hat2
   simp only [Bool.and_eq_true] at hat2
   have hbt : b = C.top := Nat.eq_of_beq_eq_true hat2.2
   have := H.fin b₂ J B₂ C I B e2 h2 (by rw [hc2]; exact hC) hm (by rw [← hbt]; exact hb) hg.symm (by rw [← hbt]; exact hB)
   have := hat hat2.1
   omega
  · omega
 refine H.add _ size I.e B.cls _ _ ⟨I.g, I.o + i, I.m, I.e, none⟩ ⟨fun k hk _ => setN_heap I.g k (fun (e : k = I.g) => H.nx.2 b I hb (e ▸ hk)) _ _ _, H.nx.2 b I hb⟩ (Nat.le_of_lt d5) (by rw [setN_size]; exact Nat.le_refl _) (by rw [setN_size]; exact k1) ?_ ?_ rfl hroom ?_ ?_ ?_ ?_ ?_ ?_ (fun g r hn hh => setN_obj _ _ hn _ _ _ hh) rfl (fun b₂ J B₂ e2 h2 hc o hh => by
  rw [setN_heap _ _ (fun eg => hc (H.one b₂ b J I B₂ B e2 hb eg h2 hB))]; exact hh)
 · intro j ho hj; exact setN_any _ _ _ _ _ (k2 j (Nat.le_trans (Nat.le_add_right _ _) ho) hj)
 · intro j ho hj; rw [setN_frozen]; exact k3 hro j (Nat.le_trans (Nat.le_add_right _ _) ho) hj
 ·
  intro j v hj hv
  rw [trOf_get _ _ _ _ (Nat.zero_le _)] at hv
  rw [if_pos (by simp; omega)] at hv
  simp only [Nat.sub_zero] at hv
  have hr := (rold.append rnew).get j v hv
  obtain ⟨v', q1, q2⟩ := hr
  refine ⟨v', ?_, q2.ext (H.ext_upd _)⟩
  by_cases hjl : j < old'.length
  ·
   rw [List.getElem?_append_left hjl] at q1
   show (setN w I.g (I.o + i + old.length) new').cell? ⟨I.g, I.o + i + j, none⟩ = some v'
   rw [setN_other _ _ _ _ _ (.inr (.inl (by simp; omega)))]
   exact hold j v' q1
  ·
   rw [List.getElem?_append_right (by omega)] at q1
   show (setN w I.g (I.o + i + old.length) new').cell? ⟨I.g, I.o + i + j, none⟩ = some v'
   have := setN_in I.g new' w (I.o + i + old.length) (j - old'.length) v' (fun k hk => k2 _ (by omega) (by omega)) q1
   rw [← this]; congr 2; omega
 ·
  intro b₂ J e2 j hj
  exact ⟨fun hx => setN_any _ _ _ _ _ hx, fun hf => by rw [setN_frozen]; exact hf⟩
 ·
  intro b₂ J B₂ C₂ e2 h2 hC2 hm2 hmv j hj
  by_cases hg : J.g = I.g
  ·
   have hcl := H.one b₂ b J I B₂ B e2 hb hg h2 hB
   have := low b₂ J B₂ e2 h2 hcl (hmv hcl) hg
   exact setN_other _ _ _ _ _ (.inr (.inl (by simp; omega)))
  · exact setN_other _ _ _ _ _ (.inl hg)
 · intro b₂ J B₂ e2 h2 hg; exact H.one b₂ b J I B₂ B e2 hb hg h2 hB
 ·
  intro b₂ J B₂ C₂ e2 hB₂ hc₂ hC₂ hm
  rw [hC] at hC₂; cases hC₂
  split at hm
  · exact hm
  · obtain ⟨_, _, _, _, d3', _⟩ := H.dom b₂ J e2; omega
 ·
  intro b₂ J B₂ e2 h2 hc2 hm hg
  have := low b₂ J B₂ e2 h2 hc2 hm hg
  show J.o + B₂.size ≤ I.o + i + size
  omega
theorem grow_ro {h h' : Heap} {b id size esz : Nat} {atEnd : Bool} {cells : Tr Value} {B : Blk} (hB : h.blks.get b = some B) (e : h.grow b atEnd cells size esz = some (id, h')) : B.ro = false := by
 unfold Heap.grow at e
 rw [hB] at e
 simp only at e
 split at e
 case h_1 => cases e
 split at e
 case h_2 => cases e
 rename_i hn
 simp only [Bool.and_eq_true, Bool.not_eq_true'] at hn
 exact hn.2
theorem append_core {P : Program} {ρ : Rho} {h h' : Heap} {w : World} (H : HRel ρ h w) {argTypes : Array TypeId} {ty elem : TypeId} {base : Option Addr} {sLen sCap n ez : Nat} {s' x' v z : Value} {new new' new2 : List Value}
  (e : aAppendTo h (.slice base sLen sCap) ez sLen sCap n new = some (v, h')) (rs : VRel ρ (.slice base sLen sCap) s') (c1 : (sLen + n) * ez ≤ 100000000) (c2 : sLen + n ≤ 100000000) (c4 : z.cells.size = ez) (c5 : 0 < ez) (c6 : new.length = n * ez)
  (rnew : F2 (LRel ρ) new new') (rnew2 : F2 (LRel ρ) new new2)
  (hfits : ∀ (base : Option Addr) (sLen c : Nat), sLen + n ≤ c → (Builtin.append_ argTypes ty #[.slice base sLen c, x']).run P w = (match base with
   | some a => (storeCells (a.add (sLen * ez)) new').run P w
   | none => .ok () w).andThen fun _ w' => .ok (.slice base (sLen + n) c) w')
  (hgrows : ∀ (base : Option Addr) (sLen c : Nat) (old : List Value), (Builtin.firstCells ez sLen (.slice base sLen c)).run P w.drew = .ok old.toArray w.drew → ¬ sLen + n ≤ c → sLen + n ≤ 100000000 →
   (Builtin.append_ argTypes ty #[.slice base sLen c, x']).run P w = .ok (.slice (some ⟨w.heap.size, 0, none⟩) (sLen + n) (grownCap w (sLen + n) c elem))
   (w.drew.alloc (.cells (old.toArray ++ new2.toArray ++ Builtin.zeroCells z.cells (grownCap w (sLen + n) c elem - (sLen + n))) elem))) : SM P ρ w (Builtin.append_ argTypes ty #[s', x']) v h' := by
 have hzc : ∀ k, (Builtin.zeroCells z.cells k).size = k * ez := fun k => by simp [Builtin.zeroCells, c4]
 have hmul : sLen * ez + n * ez = (sLen + n) * ez := (Nat.add_mul _ _ _).symm
 unfold aAppendTo at e
 split at e
 ·
  rename_i hfit
  have hfit : sLen + n ≤ sCap := by simpa using hfit
  split at e
  ·
   rename_i hsv
   cases hsv
   cases e
   have := rs.eq_of_plain rfl; subst this
   refine ⟨.slice none 0 0, ρ, w, ?_, .plain rfl, H, .refl _ _, .refl _ _⟩
   rw [hfits _ _ _ hfit]
   have hn0 : n = 0 := by omega
   subst hn0; rfl
  ·
   rename_i hsv
   cases hsv
   cases e
   obtain ⟨rfl, rfl, a', rfl⟩ := rs.mark_inv
   have hn0 : n = 0 := by omega
   subst hn0
   have : new = [] := by simpa using c6
   subst this
   cases rnew
   refine ⟨.slice (some a') 0 0, ρ, w, ?_, .one (.one .sliceE), H, .refl _ _, .refl _ _⟩
   rw [hfits _ _ _ (Nat.le_refl _)]
   rfl
  ·
   rename_i b i' _ _ hsv
   cases hsv
   split at e
   case h_2 => cases e
   rename_i B hB
   split at e
   case h_2 => cases e
   rename_i h₁ hes hw
   cases e
   have hes : B.esz = ez := Nat.eq_of_beq_eq_true hes
   rcases rs.slice_inv with ⟨I, c', hb, rfl, hn, hcc, hm⟩ | ⟨rfl, rfl, a', rfl⟩
   ·
    obtain ⟨p1, p2⟩ := wrL_sound hb new new' h h' w _ H hw rnew
    refine ⟨.slice (some ⟨I.g, I.o + i', none⟩) (sLen + n) c', ρ, _, ?_, ?_, p1, .refl _ _, setN_fr hb _ _⟩
    ·
     rw [hfits _ _ _ (Nat.le_trans hfit hcc)]
     simp only [addr_add]
     rw [run_storeCells I.g (I.o + i' + sLen * ez) new' w 0 rnew.oneC (by simpa [Nat.add_assoc] using p2)]
     simp only [Result.andThen_ok, Nat.add_zero, Nat.add_assoc]
    · exact .one (.one (.slice hb hfit hcc hm))
   ·
    have hn0 : n = 0 := by omega
    subst hn0
    have : new = [] := by simpa using c6
    subst this
    cases rnew
    simp only [Heap.wrL, Option.some.injEq] at hw
    subst hw
    refine ⟨.slice (some a') 0 0, ρ, w, ?_, .one (.one .sliceE), H, .refl _ _, .refl _ _⟩
    rw [hfits _ _ _ (Nat.le_refl _)]
    rfl
  · cases e
 ·
  rename_i hfit
  have hfit : ¬ sLen + n ≤ sCap := by
   intro hx
   have : Nat.ble (sLen + n) sCap = true := by simpa using hx
   rw [this] at hfit; cases hfit
  split at e
  ·
   rename_i hsv
   cases hsv
   have := rs.eq_of_plain rfl; subst this
   unfold sliceOf at e
   split at e
   case h_2 => cases e
   rename_i id h₁ hnw
   cases e
   have hge := grownCap_ge w (0 + n) 0 elem
   obtain ⟨ρ', p1, p2, p3, p4⟩ := new_sound H.drew hnw (new2.toArray ++ Builtin.zeroCells z.cells (grownCap w (0 + n) 0 elem - (0 + n))) elem (by have := rnew2.length; simp; omega) (fun j u hj hu => by
    obtain ⟨u', q1, q2⟩ := rnew2.get j u (tr_of_list (by simp [short]) hu)
    refine ⟨u', ?_, q2⟩
    have hlt : j < new2.length := by
     rcases Nat.lt_or_ge j new2.length with hh | hh
     · exact hh
     · rw [List.getElem?_eq_none hh] at q1; cases q1
    rw [Array.getElem?_append_left (by simpa using hlt)]
    simpa using q1)
   refine ⟨_, ρ', _, hgrows _ _ _ [] (by simp [Builtin.firstCells]) hfit (by omega), ?_, ?_, p3.undrew, ?_⟩
   ·
    have hx : LRel ρ' (.slice (some ⟨id, 0, none⟩) (0 + n) (0 + n)) (.slice (some ⟨w.drew.heap.size, 0 + 0, none⟩) (0 + n) (grownCap w (0 + n) 0 elem)) := by
     refine LRel.slice p1 (Nat.le_refl _) hge ?_
     have := rnew2.length
     simp only [Array.size_append, hzc, List.size_toArray]
     have hg : grownCap w (0 + n) 0 elem = n + (grownCap w (0 + n) 0 elem - (0 + n)) := by omega
     generalize grownCap w (0 + n) 0 elem - (0 + n) = g at hg ⊢
     rw [hg, Nat.add_mul]
     omega
    exact .one (.one hx)
   · simpa using p2
   ·
    have := (Fr.refl ρ w).drew.trans (Grow.refl ρ w) (ρ₁ := ρ) p4
    simpa using this
  ·
   rename_i hsv
   cases hsv
   obtain ⟨rfl, rfl, a', rfl⟩ := rs.mark_inv
   unfold sliceOf at e
   split at e
   case h_2 => cases e
   rename_i id h₁ hnw
   cases e
   have hge := grownCap_ge w (0 + n) 0 elem
   obtain ⟨ρ', p1, p2, p3, p4⟩ := new_sound H.drew hnw (new2.toArray ++ Builtin.zeroCells z.cells (grownCap w (0 + n) 0 elem - (0 + n))) elem (by have := rnew2.length; simp; omega) (fun j u hj hu => by
    obtain ⟨u', q1, q2⟩ := rnew2.get j u (tr_of_list (by simp [short]) hu)
    refine ⟨u', ?_, q2⟩
    have hlt : j < new2.length := by
     rcases Nat.lt_or_ge j new2.length with hh | hh
     · exact hh
     · rw [List.getElem?_eq_none hh] at q1; cases q1
    rw [Array.getElem?_append_left (by simpa using hlt)]
    simpa using q1)
   refine ⟨_, ρ', _, hgrows _ _ _ [] (by simp [Builtin.firstCells, loadCells, loadCellsFrom]) hfit (by omega), ?_, ?_, p3.undrew, ?_⟩
   ·
    have hx : LRel ρ' (.slice (some ⟨id, 0, none⟩) (0 + n) (0 + n)) (.slice (some ⟨w.drew.heap.size, 0 + 0, none⟩) (0 + n) (grownCap w (0 + n) 0 elem)) := by
     refine LRel.slice p1 (Nat.le_refl _) hge ?_
     have := rnew2.length
     simp only [Array.size_append, hzc, List.size_toArray]
     have hg : grownCap w (0 + n) 0 elem = n + (grownCap w (0 + n) 0 elem - (0 + n)) := by omega
     generalize grownCap w (0 + n) 0 elem - (0 + n) = g at hg ⊢
     rw [hg, Nat.add_mul]
     omega
    exact .one (.one hx)
   · simpa using p2
   ·
    have := (Fr.refl ρ w).drew.trans (Grow.refl ρ w) (ρ₁ := ρ) p4
    simpa using this
  ·
   rename_i b i' _ _ hsv
   cases hsv
   split at e
   case h_2 => cases e
   rename_i old B hold hB
   split at e
   case h_2 => cases e
   rename_i hck2
   simp only [Bool.and_eq_true, Nat.blt_eq] at hck2
   have hes : B.esz = ez := Nat.eq_of_beq_eq_true hck2.1
   have hcl := hck2.2
   unfold sliceOf at e
   split at e
   case h_2 => cases e
   rename_i id h₁ hgw
   cases e
   have hol := rdL_length _ _ _ hold
   have hro := grow_ro hB hgw
   have moved : ∀ (base' : Option Addr) (c' : Nat) (old2 : List Value), ¬ sLen + n ≤ c' → (Builtin.firstCells ez sLen (.slice base' sLen c')).run P w.drew = .ok old2.toArray w.drew → F2 (LRel ρ) old old2 →
     SM P ρ w (Builtin.append_ argTypes ty #[.slice base' sLen c', x']) (.slice (some ⟨id, 0, none⟩) (sLen + n) (sLen + n)) h' := by
    intro base' c' old2 hf ho ro
    have hge := grownCap_ge w (sLen + n) c' elem
    have hl1 := ro.length
    have hl2 := rnew2.length
    obtain ⟨ρ', p1, p2, p3, p4⟩ := grow_moved H.drew hB hcl hgw (old2.toArray ++ new2.toArray ++ Builtin.zeroCells z.cells (grownCap w (sLen + n) c' elem - (sLen + n))) elem (by simp; omega) (fun j u hj hu => by
     obtain ⟨u', q1, q2⟩ := (ro.append rnew2).get j u (tr_of_list (by simp [short]) hu)
     refine ⟨u', ?_, q2⟩
     have hlt : j < (old2 ++ new2).length := by
      rcases Nat.lt_or_ge j (old2 ++ new2).length with hh | hh
      · exact hh
      · rw [List.getElem?_eq_none hh] at q1; cases q1
     rw [Array.getElem?_append_left (by simpa using hlt)]
     simpa using q1)
    refine ⟨_, ρ', _, hgrows _ _ _ old2 ho hf (by omega), ?_, ?_, p3.undrew, ?_⟩
    ·
     have hx : LRel ρ' (.slice (some ⟨id, 0, none⟩) (sLen + n) (sLen + n)) (.slice (some ⟨w.drew.heap.size, 0 + 0, none⟩) (sLen + n) (grownCap w (sLen + n) c' elem)) := by
      refine LRel.slice p1 (Nat.le_refl _) (by omega) ?_
      simp only [Array.size_append, hzc, List.size_toArray, Nat.zero_add]
      have hg : grownCap w (sLen + n) c' elem = (sLen + n) + (grownCap w (sLen + n) c' elem - (sLen + n)) := by omega
      generalize grownCap w (sLen + n) c' elem - (sLen + n) = g at hg ⊢
      rw [hg, Nat.add_mul, ← hmul]
      omega
     exact .one (.one hx)
    · exact p2
    · exact (Fr.refl ρ w).drew.trans (Grow.refl ρ w) (ρ₁ := ρ) p4
   rcases rs.slice_inv with ⟨I, c', hb, rfl, hn, hcc, hm⟩ | ⟨rfl, rfl, a', rfl⟩
   ·
    obtain ⟨old', q1, q2, q3⟩ := rdL_sound H hb _ _ _ hold
    by_cases hf : sLen + n ≤ c'
    ·
     obtain ⟨_, _, d1, _, _, d4, _⟩ := H.dom b I hb
     rw [hB] at d1; cases d1
     have hmul2 : (sLen + n) * ez ≤ c' * ez := Nat.mul_le_mul_right _ hf
     have hIe : I.e = ez := by omega
     rw [hIe] at hm
     rw [← hIe] at hgw
     obtain ⟨ρ', p1, p2, p3, p4⟩ := grow_inplace H (i := i') (size := (sLen + n) * I.e) hB hb hro (fun ht => by
      have := Nat.eq_of_beq_eq_true ht; rw [hIe] at this; omega) (by rw [hIe]; omega) (by rw [hIe]; omega) (by rw [hIe]; omega) hgw q3 rnew q2
     refine ⟨.slice (some ⟨I.g, I.o + i', none⟩) (sLen + n) c', ρ', _, ?_, ?_, p2, p3, p4⟩
     ·
      rw [hfits _ _ _ hf]
      simp only [addr_add]
      obtain ⟨_, k2, k3⟩ := H.img b I B hb hB
      have hnl := rnew.length
      rw [run_storeCells I.g (I.o + i' + sLen * ez) new' w 0 rnew.oneC (fun j hj => ⟨k2 _ (by omega) (by omega), k3 hro _ (by omega) (by omega)⟩)]
      simp only [Result.andThen_ok, Nat.add_zero, hol]
     ·
      have hx : LRel ρ' (.slice (some ⟨id, 0, none⟩) (sLen + n) (sLen + n)) (.slice (some ⟨I.g, I.o + i' + 0, none⟩) (sLen + n) c') := by
       refine LRel.slice p1 (Nat.le_refl _) hf ?_
       show I.o + i' + 0 + c' * I.e ≤ I.m
       rw [hIe]; omega
      rw [Nat.add_zero] at hx
      exact .one (.one hx)
    ·
     refine moved _ c' old' hf ?_ q3
     have := run_loadCells (P := P) (w := w.drew) (g := I.g) (o := I.o + i') (vs := old') (fun j u hu => by simpa using q2 j u hu)
     rw [q1] at this
     simp [Builtin.firstCells, this]
   ·
    have ho0 : old = [] := by simpa using hol
    subst ho0
    exact moved (some a') 0 [] (by omega) (by simp [Builtin.firstCells, loadCells, loadCellsFrom]) .nil
  · cases e
theorem aAppend_sound {P : Program} {ρ : Rho} {h h' : Heap} {w : World} (H : HRel ρ h w) {argTypes : Array TypeId} {ty : TypeId} {s s' x x' v : Value}
  (e : aAppend P h argTypes s x = some (v, h')) (rs : VRel ρ s s') (rx : VRel ρ x x') : SM P ρ w (Builtin.append_ argTypes ty #[s', x']) v h' := by
 unfold aAppend at e
 split at e
 case h_2 => cases e
 rename_i st xt h0 h1
 split at e
 case h_2 => cases e
 rename_i elem d hst hxt
 split at e
 case h_2 => cases e
 rename_i ez z i he hz hi
 split at e
 ·
  rename_i hd
  split at e
  case h_2 => cases e
  rename_i base sLen sCap k j
  split at e
  case h_2 => cases e
  rename_i hck
  simp only [Bool.and_eq_true, Nat.ble_eq, Nat.blt_eq, decide_eq_true_eq] at hck
  obtain ⟨⟨⟨⟨⟨⟨hj0, hj1⟩, c1⟩, c2⟩, c3⟩, c4⟩, c5⟩ := hck
  have c4 : z.cells.size = ez := Nat.eq_of_beq_eq_true c4
  have := rx.eq_of_plain rfl; subst this
  have hzc := zeroCellsL_plain (ρ := ρ) (cellsAll_of (aZero_plain hz)) (n := j.toNat * z.cells.size) (.inr (by omega))
  have hzl : (Builtin.zeroCells z.cells j.toNat).toList = zeroCellsL z.cells (j.toNat * z.cells.size) := by simp [Builtin.zeroCells, zeroCellsL]
  refine append_core (z := z) (elem := elem) H e rs c1 c2 c4 c5 (by simp [zeroCellsL, c4]) hzc hzc (fun base sLen c hf => ?_) (fun base sLen c old ho hf hn => ?_)
  · rw [run_appendZ_fits h0 h1 hst hxt hd he hi hz hj0 hj1 c5 c3 hf, hzl]
  · rw [run_appendZ_grows h0 h1 hst hxt hd he hi hz hj0 hj1 c5 ho hf c3 hn, ← hzl]
 rename_i hdi
 split at e
 case h_2 => cases e
 rename_i base sLen sCap
 split at e
 case h_2 => cases e
 rename_i n new hxc
 split at e
 case h_2 => cases e
 rename_i hck
 simp only [Bool.and_eq_true, Nat.ble_eq, Nat.blt_eq] at hck
 obtain ⟨⟨⟨⟨⟨⟨hd, c1⟩, c2⟩, c3⟩, c4⟩, c5⟩, c6⟩ := hck
 have c4 : z.cells.size = ez := Nat.eq_of_beq_eq_true c4
 have c6 : new.length = n * ez := Nat.eq_of_beq_eq_true c6
 obtain ⟨hlen, new', hnew, rnew⟩ := firstCells_sound (P := P) H hxc rx
 obtain ⟨_, new2, hnew2, rnew2⟩ := firstCells_sound (P := P) H.drew hxc rx
 exact append_core (z := z) (elem := elem) H e rs c1 c2 c4 c5 c6 rnew rnew2 (fun base sLen c hf => run_append_fits h0 h1 hst hxt hd he hlen hnew hf)
  (fun base sLen c old ho hf hn => run_append_grows h0 h1 hst hxt hd he hi hz hlen hnew2 ho hf c3 hn)
def aFirst (h : Heap) (e n : Nat) : Value → Option (List Value)
 | .slice (some ⟨b, i, none⟩) _ _ => h.rdL b i (n * e)
 | .slice none 0 0 => some []
 | .slice (some ⟨_, _, some _⟩) 0 0 => some []
 | _ => none
def aLenOf : Value → Option Nat
 | .slice _ n _ => some n
 | _ => none
theorem lenOf_sound {P : Program} {ρ : Rho} {x x' : Value} {n : Nat} (h : aLenOf x = some n) (r : VRel ρ x x') : ∀ w, (Builtin.lenOf x').run P w = .ok n w := by
 unfold aLenOf at h
 split at h
 case h_2 => cases h
 cases h
 cases r.leaf (by simp) (by simp) with
 | plain hp => exact fun _ => rfl
 | slice => exact fun _ => rfl
 | sliceE => exact fun _ => rfl
theorem aFirst_sound {P : Program} {ρ : Rho} {h : Heap} {w : World} (H : HRel ρ h w) {e n m : Nat} {x x' : Value} {l : List Value} (hx : aFirst h e n x = some l) (hl : aLenOf x = some m) (hn : n ≤ m) (r : VRel ρ x x') :
  ∃ l', (Builtin.firstCells e n x').run P w = .ok l'.toArray w ∧ F2 (LRel ρ) l l' := by
 unfold aFirst at hx
 split at hx
 ·
  rename_i b i m' c
  simp only [aLenOf, Option.some.injEq] at hl
  subst hl
  rcases r.slice_inv with ⟨I, c', hb, rfl, _⟩ | ⟨rfl, rfl, a', rfl⟩
  ·
   obtain ⟨vs', q1, q2, q3⟩ := rdL_sound H hb _ i l hx
   have := run_loadCells (P := P) (w := w) (g := I.g) (o := I.o + i) (vs := vs') q2
   rw [q1] at this
   exact ⟨vs', by simp [Builtin.firstCells, this], q3⟩
  ·
   have hn0 : n = 0 := by omega
   subst hn0
   have : l = [] := by have := rdL_length _ _ _ hx; simpa using this
   subst this
   exact ⟨[], by simp [Builtin.firstCells, loadCells, loadCellsFrom], .nil⟩
 ·
  cases hx
  have := r.eq_of_plain rfl; subst this
  exact ⟨[], by simp [Builtin.firstCells], .nil⟩
 ·
  cases hx
  obtain ⟨_, _, a', rfl⟩ := r.mark_inv
  simp only [aLenOf, Option.some.injEq] at hl
  subst hl
  have hn0 : n = 0 := by omega
  subst hn0
  exact ⟨[], by simp [Builtin.firstCells, loadCells, loadCellsFrom], .nil⟩
 · cases hx
def aWriteTo (h : Heap) (dst : Value) (l : List Value) : Option Heap :=
 match dst with
 | .slice (some ⟨b, i, none⟩) _ _ => h.wrL b i l
 | .slice none 0 0 => match l with
  | [] => some h
  | _ => none
 | .slice (some ⟨_, _, some _⟩) 0 0 => match l with
  | [] => some h
  | _ => none
 | _ => none
theorem aWriteTo_sound {P : Program} {ρ : Rho} {h h' : Heap} {w : World} (H : HRel ρ h w) {dst dst' : Value} {l l' : List Value} (e : aWriteTo h dst l = some h') (r : VRel ρ dst dst') (rl : F2 (LRel ρ) l l') (hz : aLenOf dst = some 0 → l = []) :
  ∃ w' base n c, dst' = .slice base n c ∧ (match base with | some a => (storeCells a l').run P w | none => .ok () w) = .ok () w' ∧ HRel ρ h' w' ∧ Fr ρ w w' := by
 unfold aWriteTo at e
 split at e
 ·
  rename_i b i n c
  rcases r.slice_inv with ⟨I, c', hb, rfl, _⟩ | ⟨rfl, rfl, a', rfl⟩
  ·
   obtain ⟨p1, p2⟩ := wrL_sound hb l l' h h' w i H e rl
   refine ⟨_, _, _, _, rfl, ?_, p1, setN_fr hb _ _⟩
   exact run_storeCells I.g (I.o + i) l' w 0 rl.oneC (by simpa [Nat.add_assoc] using p2)
  ·
   have := hz rfl
   subst this
   cases rl
   simp only [Heap.wrL, Option.some.injEq] at e
   subst e
   exact ⟨w, _, _, _, rfl, rfl, H, .refl _ _⟩
 ·
  split at e
  case h_2 => cases e
  cases e; cases rl
  have := r.eq_of_plain rfl; subst this
  exact ⟨w, _, _, _, rfl, rfl, H, .refl _ _⟩
 ·
  split at e
  case h_2 => cases e
  cases e; cases rl
  obtain ⟨_, _, a', rfl⟩ := r.mark_inv
  exact ⟨w, _, _, _, rfl, rfl, H, .refl _ _⟩
 · cases e
def aCopy (P : Program) (h : Heap) (argTypes : Array TypeId) (dst src : Value) : Option (Value × Heap) :=
 match argTypes[0]? with
 | some dt => match P.underlying dt with
  | some (.slice elem) => match sz P elem, aLenOf dst, aLenOf src with
   | some e, some dl, some sl => match aFirst h e (Nat.min sl dl) src with
    | some l => match Nat.beq l.length (Nat.min sl dl * e), aWriteTo h dst l with
     | true, some h' => some (.int .i64 (Nat.min sl dl : Nat), h')
     | _, _ => none
    | none => none
   | _, _, _ => none
  | _ => none
 | none => none
theorem aCopy_sound {P : Program} {ρ : Rho} {h h' : Heap} {w : World} (H : HRel ρ h w) {argTypes : Array TypeId} {ty : TypeId} {s s' x x' v : Value}
  (e : aCopy P h argTypes s x = some (v, h')) (rs : VRel ρ s s') (rx : VRel ρ x x') : SM P ρ w (Builtin.copy_ argTypes ty #[s', x']) v h' := by
 unfold aCopy at e
 split at e
 case h_2 => cases e
 rename_i dt h0
 split at e
 case h_2 => cases e
 rename_i elem hu
 split at e
 case h_2 => cases e
 rename_i ez dl sl he hdl hsl
 split at e
 case h_2 => cases e
 rename_i l hl
 split at e
 case h_2 => cases e
 rename_i h₁ hlen hw
 cases e
 have hlen : l.length = Nat.min sl dl * ez := Nat.eq_of_beq_eq_true hlen
 obtain ⟨l', q1, q2⟩ := aFirst_sound (P := P) H hl hsl (Nat.min_le_left _ _) rx
 obtain ⟨w', base, n, c, rfl, p1, p2, p3⟩ := aWriteTo_sound (P := P) H hw rs q2 (fun hz => by
  rw [hdl] at hz; cases hz
  have : l.length = 0 := by rw [hlen]; simp
  exact List.length_eq_zero_iff.1 this)
 have hdn : n = dl := by
  have := lenOf_sound (P := P) hdl rs w
  simp [Builtin.lenOf] at this; exact this
 subst hdn
 refine ⟨.int .i64 (Nat.min sl n : Nat), ρ, w', ?_, .plain rfl, p2, .refl _ _, p3⟩
 simp only [Builtin.copy_, h0, List.getElem?_toArray, List.getElem?_cons_zero, List.getElem?_cons_succ, Sem.run_bind, run_underlying_some hu, Result.andThen_ok, lenOf_sound hsl rx, run_sz he, q1, Sem.run_pure]
 cases base with
 | some a => simp only at p1 ⊢; rw [Sem.run_bind, p1]; rfl
 | none => simp only at p1 ⊢; cases p1; rfl
def aClear (P : Program) (h : Heap) (argTypes : Array TypeId) (x : Value) : Option (Value × Heap) :=
 match argTypes[0]? with
 | some t => match P.underlying t with
  | some (.slice elem) => match x with
   | .slice none 0 0 => some (.tuple #[], h)
   | .slice (some _) 0 _ => some (.tuple #[], h)
   | .slice (some ⟨b, i, none⟩) n _ => match aZero P elem with
    | some z => match Nat.blt 0 z.cells.size with
     | true => match h.wrL b i (zeroCellsL z.cells (n * z.cells.size)) with
      | some h' => some (.tuple #[], h')
      | none => none
     | false => none
    | none => none
   | _ => none
  | _ => none
 | none => none
theorem aClear_sound {P : Program} {ρ : Rho} {h h' : Heap} {w : World} (H : HRel ρ h w) {argTypes : Array TypeId} {ty : TypeId} {x x' v : Value}
  (e : aClear P h argTypes x = some (v, h')) (rx : VRel ρ x x') : SM P ρ w (Builtin.clear_ argTypes ty #[x']) v h' := by
 unfold aClear at e
 split at e
 case h_2 => cases e
 rename_i t h0
 split at e
 case h_2 => cases e
 rename_i elem hu
 split at e
 ·
  cases e
  have := rx.eq_of_plain rfl; subst this
  refine ⟨.tuple #[], ρ, w, ?_, .tuple .nil, H, .refl _ _, .refl _ _⟩
  simp only [Builtin.clear_, h0, List.getElem?_toArray, List.getElem?_cons_zero, Sem.run_bind, run_underlying_some hu, Result.andThen_ok]
  rfl
 ·
  cases e
  obtain ⟨a', n', c', rfl⟩ := rx.sliceSome
  have hn : n' = 0 := by
   have := lenOf_sound (P := P) (n := 0) rfl rx w
   simp [Builtin.lenOf] at this; exact this
  subst hn
  refine ⟨.tuple #[], ρ, w, ?_, .tuple .nil, H, .refl _ _, .refl _ _⟩
  simp only [Builtin.clear_, h0, List.getElem?_toArray, List.getElem?_cons_zero, Sem.run_bind, run_underlying_some hu, Result.andThen_ok]
  rfl
 ·
  rename_i b i n c hne
  split at e
  case h_2 => cases e
  rename_i z hz
  split at e
  case h_2 => cases e
  rename_i hpos
  have hpos : 0 < z.cells.size := by simpa using hpos
  split at e
  case h_2 => cases e
  rename_i h₁ hw
  cases e
  have hn : n ≠ 0 := fun x => hne (by simpa using x)
  rcases rx.slice_inv with ⟨I, c', hb, rfl, _⟩ | ⟨rfl, rfl, a', rfl⟩
  ·
   have hzc := zeroCellsL_plain (ρ := ρ) (cellsAll_of (aZero_plain hz)) (n := n * z.cells.size) (.inr hpos)
   obtain ⟨p1, p2⟩ := wrL_sound hb _ _ h h' w i H hw hzc
   refine ⟨.tuple #[], ρ, _, ?_, .tuple .nil, p1, .refl _ _, setN_fr hb _ _⟩
   have hst := run_storeCells (P := P) I.g (I.o + i) (zeroCellsL z.cells (n * z.cells.size)) w 0 hzc.oneC (by simpa [Nat.add_assoc] using p2)
   obtain ⟨n, rfl⟩ : ∃ m, n = m + 1 := ⟨n - 1, by omega⟩
   have hzz : (Builtin.zeroCells z.cells (n + 1)).toList = zeroCellsL z.cells ((n + 1) * z.cells.size) := by
    simp [Builtin.zeroCells, zeroCellsL]
   simp only [Builtin.clear_, h0, List.getElem?_toArray, List.getElem?_cons_zero, Sem.run_bind, run_underlying_some hu, Result.andThen_ok, run_zero hz, hzz, hst, Sem.run_pure]
   rfl
  · exact absurd rfl hn
 · cases e
def aCap (P : Program) (argTypes : Array TypeId) (x : Value) : Option Value :=
 match argTypes[0]? with
 | some t => match P.underlying t, x with
  | some (.slice _), .slice none 0 0 => some (.int .i64 0)
  | some (.slice _), .slice (some ⟨_, _, some _⟩) 0 0 => some (.int .i64 0)
  | _, _ => none
 | none => none
theorem aCap_sound {P : Program} {ρ : Rho} {argTypes : Array TypeId} {ty : TypeId} {x x' v : Value} (e : aCap P argTypes x = some v) (r : VRel ρ x x') : SP P ρ (Builtin.cap_ argTypes ty #[x']) v := by
 unfold aCap at e
 split at e
 case h_2 => cases e
 rename_i t ht
 split at e
 ·
  rename_i el hu
  cases e
  have := r.eq_of_plain rfl; subst this
  exact ⟨.int .i64 0, fun w => by simp [Builtin.cap_, ht, run_underlying_some hu, goInt], .plain rfl⟩
 ·
  rename_i el b i k hu
  cases e
  obtain ⟨_, _, a', rfl⟩ := r.mark_inv
  exact ⟨.int .i64 0, fun w => by simp [Builtin.cap_, ht, run_underlying_some hu, goInt], .plain rfl⟩
 · cases e
end
end Go.Vai

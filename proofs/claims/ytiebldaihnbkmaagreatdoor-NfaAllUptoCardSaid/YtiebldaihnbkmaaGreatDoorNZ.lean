/-
  What is proved here: a pattern that is read in a world lies there as a pattern of a world (part NZ). No conditions.
-/
import Derived.Test.YtiebldaihnbkmaaGreatDoorNX
import Derived.Test.YtiebldaihnbkmaaGreatDoorRows
import Derived.Test.YtiebldaihnbkmaaGreatDoorProg
import Derived.Deep.Slices
import Derived.KernelRfl
set_option linter.unusedVariables false
set_option linter.unusedSimpArgs false
set_option linter.unusedVariables false
set_option maxRecDepth 100000
set_option linter.unusedSimpArgs false
namespace Go.Proofs.YtiebldaihnbkmaaGreatDoor
open Go.Vai Go.Nfa Go.Deep Go.ChangeShapes Go.WideShapes
noncomputable section
variable {H : Type} {enc : TypeId × Value → H} {W : World}
theorem bulk_part {d : DataW H} {l : List (DataW H)} (h : d ∈ l) : Rows.uptoBulk d ≤ Rows.uptoBulkAll l := by
  induction l with
  | nil => cases h
  | cons x r ih =>
    simp only [Rows.uptoBulkAll]
    cases List.mem_cons.1 h with
    | inl e => subst e; omega
    | inr e => have := ih e; omega
theorem bulk_sum {α : Type} {l : List α} {f : α → DataW H} {g : α → Nat} (h : ∀ x ∈ l, g x ≤ Rows.uptoBulk (f x)) : (l.map g).sum ≤ Rows.uptoBulkAll (l.map f) := by
  induction l with
  | nil => simp [Rows.uptoBulkAll]
  | cons x r ih =>
    simp only [List.map_cons, List.sum_cons, Rows.uptoBulkAll]
    have := h x (by simp)
    have := ih fun y hy => h y (by simp [hy])
    omega
theorem row_free {a : Addr} {n : Nat} {qs : List MemPlace} (h : W.noneFrozen (MemPlace.row a n ++ qs)) {j : Nat} (hj : j < n) : W.frozen? ⟨a.block, a.off + j, none⟩ = false :=
  h a.block (a.off + j) (List.mem_append.2 (.inl (by unfold MemPlace.row; exact List.mem_map.2 ⟨j, List.mem_range.2 hj, rfl⟩)))
theorem free_sub {ps qs : List MemPlace} (h : W.noneFrozen ps) (s : ∀ p ∈ qs, p ∈ ps) : W.noneFrozen qs := fun b off hm => h b off (s _ hm)
theorem cells_at {a : Addr} {n : Nat} {cs : List Value} (h : W.cells? 0 a n = some cs) : cs.length = n ∧ ∀ (j : Nat) v, cs[j]? = some v → W.cell? (a.add j) = some v := by
  obtain ⟨_, h2, h3⟩ := World.cells?_some h
  exact ⟨h2, fun j v e => by
    have hj := (List.getElem?_eq_some_iff.1 e).1
    have := h3 j (by omega)
    rw [this, e]⟩
theorem add_cell {a : Addr} (hs : a.spot = none) (j : Nat) : a.add j = ⟨a.block, a.off + j, none⟩ := by
  obtain ⟨b, o, sp⟩ := a
  simp only at hs
  subst hs
  unfold Addr.add
  split
  · rename_i h; subst h; rfl
  · rfl
theorem spot_none {a : Addr} {v : Value} (h : W.cell? a = some v) : a.spot = none := by
  unfold World.cell? at h
  split at h
  · split at h
    · cases h
    · rename_i hs; cases hsp : a.spot with
      | none => rfl
      | some x => rw [hsp] at hs; simp at hs
  · cases h
theorem flat_get {E : Nat} (hE : 0 < E) {f : Nat → List Value} {n : Nat} (hf : ∀ i, i < n → (f i).length = E) {j : Nat} (hj : j < n * E) : ((List.range n).flatMap f)[j]? = (f (j / E))[j % E]? := by
  induction n with
  | zero => omega
  | succ n ih =>
    have hlen : ((List.range n).flatMap f).length = n * E := by
      clear ih hj
      induction n with
      | zero => simp
      | succ n ih2 =>
        rw [List.range_succ, List.flatMap_append, List.length_append, ih2 (fun i hi => hf i (by omega))]
        simp [hf n (by omega), Nat.add_mul]
    rw [List.range_succ, List.flatMap_append]
    by_cases h : j < n * E
    · rw [List.getElem?_append_left (by omega)]
      exact ih (fun i hi => hf i (by omega)) h
    · rw [List.getElem?_append_right (by omega), hlen]
      have hd : j / E = n := by
        rw [Nat.add_mul] at hj
        exact Nat.div_eq_of_lt_le (by omega) (by rw [Nat.add_mul]; omega)
      have hm : j % E = j - n * E := by
        have := Nat.div_add_mod j E
        rw [hd, Nat.mul_comm] at this
        omega
      rw [hd, hm]; simp
theorem flat_length {E : Nat} {f : Nat → List Value} {n : Nat} (hf : ∀ i, i < n → (f i).length = E) : ((List.range n).flatMap f).length = n * E := by
  induction n with
  | zero => simp
  | succ n ih =>
    rw [List.range_succ, List.flatMap_append, List.length_append, ih (fun i hi => hf i (by omega))]
    simp [hf n (by omega), Nat.add_mul]
theorem row_read {t e : TypeId} {E fuel : Nat} (hE : Tryz.prog.cellsOf e = E) (h0 : 0 < E) (ht : Tryz.prog.underlying t = some (.slice e)) {cs : List Value} {d : DataW H} {ps : List MemPlace}
    (h : DataW.trod enc Tryz.prog W 0 (fun _ => true) true fuel t cs = some (d, ps)) (hf : W.noneFrozen ps) :
    (cs = [.slice none 0 0] ∧ d = .nil) ∨ ∃ (a : Addr) (len cap n : Nat) (D : Nat → DataW H) (Pl : Nat → List MemPlace) (CS : Nat → List Value) (rest : List (DataW H)), cs = [.slice (some a) len cap] ∧ d = .slice ((List.range len).map D) rest ∧
      (∀ i, i < len → DataW.trod enc Tryz.prog W 0 (fun _ => true) true n e (CS i) = some (D i, Pl i) ∧ W.noneFrozen (Pl i)) ∧ slOk W (some (a, cap)) E len ((List.range len).flatMap CS) := by
  rcases open_slice ht h with ⟨h1, h2⟩ | ⟨a, len, cap, m, n, D, Pl, rfl, _, hl, _, hm, hx, he⟩
  · cases h2; exact .inl ⟨h1, rfl⟩
  · right
    have hm : m = cap := hm.trans (if_pos rfl)
    subst hm
    simp only [Prod.mk.injEq] at hx
    obtain ⟨rfl, rfl⟩ := hx
    obtain ⟨CS, hC⟩ := choose_lt (α := List Value) (p := fun i c => W.cells? 0 (a.add (i * Tryz.prog.cellsOf e)) (Tryz.prog.cellsOf e) = some c ∧ DataW.trod enc Tryz.prog W 0 (fun _ => true) true n e c = some (D i, Pl i)) he
    rw [hE] at hC hf
    have hat : ∀ i, i < m → (CS i).length = E ∧ ∀ (j : Nat) v, (CS i)[j]? = some v → W.cell? ((a.add (i * E)).add j) = some v := fun i hi => cells_at (hC i hi).1
    refine ⟨a, len, m, n, D, Pl, CS, _, rfl, rfl, fun i hi => ⟨(hC i (by omega)).2, free_sub hf fun p hp => List.mem_append.2 (.inr (List.mem_flatMap.2 ⟨i, List.mem_range.2 (by omega), hp⟩))⟩, ?_, hl, ?_⟩
    · exact flat_length fun i hi => (hat i (by omega)).1
    · by_cases hc : m = 0
      · exact .inl hc
      · right
        have hsp : a.spot = none := by
          obtain ⟨q1, q2⟩ := hat 0 (by omega)
          have := q2 0 _ (List.getElem?_eq_getElem (by omega))
          rw [Nat.zero_mul] at this
          have e1 : (a.add 0).add 0 = a := by unfold Addr.add; simp
          rw [e1] at this
          exact spot_none this
        have cell : ∀ i j v, i < m → (CS i)[j]? = some v → W.cell? ⟨a.block, a.off + (i * E + j), none⟩ = some v := fun i j v hi hj => by
          have := (hat i hi).2 j v hj
          rw [add_add, add_cell hsp] at this
          exact this
        refine ⟨hsp, fun j hj => ⟨?_, row_free hf hj⟩, fun j v hv => ?_⟩
        · have hd : j / E < m := Nat.div_lt_of_lt_mul (by rw [Nat.mul_comm]; exact hj)
          have hr : j % E < E := Nat.mod_lt _ h0
          have hlen := (hat _ hd).1
          have hc2 := cell (j / E) (j % E) _ hd (List.getElem?_eq_getElem (show j % E < (CS (j / E)).length by omega))
          rw [Nat.mul_comm, Nat.div_add_mod] at hc2
          exact ⟨_, hc2⟩
        · have hj := (List.getElem?_eq_some_iff.1 hv).1
          rw [flat_length fun i hi => (hat i (by omega)).1] at hj
          rw [flat_get h0 (fun i hi => (hat i (by omega)).1) hj] at hv
          have hd : j / E < len := Nat.div_lt_of_lt_mul (by rw [Nat.mul_comm]; exact hj)
          have := cell (j / E) (j % E) v (by omega) hv
          rw [Nat.mul_comm, Nat.div_add_mod] at this
          exact this
theorem oneCell {cs : List Value} {o : Nat} {v : Value} (h : (cs.drop o).take 1 = [v]) : cs[o]? = some v := by
  have := congrArg (fun l => l[0]?) h
  simpa [List.getElem?_take, List.getElem?_drop] using this
theorem six {cs : List Value} (h : cs.length = 6) {a b c d e f : Value} (h0 : cs[0]? = some a) (h1 : cs[1]? = some b) (h2 : cs[2]? = some c) (h3 : cs[3]? = some d) (h4 : cs[4]? = some e) (h5 : cs[5]? = some f) : cs = [a, b, c, d, e, f] := by
  match cs, h with
  | [x0, x1, x2, x3, x4, x5], _ => simp at h0 h1 h2 h3 h4 h5; subst h0 h1 h2 h3 h4 h5; rfl
noncomputable def fieldsOf (t : TypeId) : List (TypeId × Nat) := match Tryz.prog.underlying t with
  | some (.struct fs) => fs.toList.map fun f => (f.type, f.offset)
  | _ => []
theorem fields34 : fieldsOf 34 = [(3, 0), (31, 1), (4, 2), (32, 3), (3, 4), (3, 5)] := by kernel_rfl
theorem fields90 : fieldsOf 90 = [(21, 0), (21, 1)] := by kernel_rfl
theorem struct_read {t : TypeId} {L : List (TypeId × Nat)} (hL : fieldsOf t = L) (hne : L ≠ []) {fuel : Nat} {cs : List Value} {d : DataW H} {ps : List MemPlace} (h : DataW.trod enc Tryz.prog W 0 (fun _ => true) true fuel t cs = some (d, ps)) :
    ∃ (xs : List (DataW H × List MemPlace)) (n : Nat), fuel = n + 1 ∧ d = .agg (xs.map (·.1)) ∧ ps = xs.flatMap (·.2) ∧ cs.length = Tryz.prog.cellsOf t ∧
      ∀ (i : Nat) p, L[i]? = some p → ∃ y, xs[i]? = some y ∧ DataW.trod enc Tryz.prog W 0 (fun _ => true) true n p.1 ((cs.drop p.2).take (Tryz.prog.cellsOf p.1)) = some y := by
  unfold fieldsOf at hL
  split at hL
  case h_2 => exact absurd hL.symm hne
  rename_i fs hu
  obtain ⟨xs, n, e1, e2, e3, e4, e5⟩ := DataW.trod_struct hu h
  simp only [Prod.mk.injEq] at e2
  refine ⟨xs, n, e1, e2.1, e2.2, e3, fun i p hp => ?_⟩
  rw [← hL, List.getElem?_map] at hp
  obtain ⟨f, hf, rfl⟩ := Option.map_eq_some_iff.1 hp
  have hf' : fs[i]? = some f := by simpa using hf
  have := e5 i f hf'
  have hi : i < xs.length := by rw [e4]; exact (Array.getElem?_eq_some_iff.1 hf').1
  exact ⟨xs[i], List.getElem?_eq_getElem hi, by rw [this]; exact List.getElem?_eq_getElem hi⟩
theorem c3 : Tryz.prog.cellsOf 3 = 1 := by kernel_rfl
theorem c4 : Tryz.prog.cellsOf 4 = 1 := by kernel_rfl
theorem c21 : Tryz.prog.cellsOf 21 = 1 := by kernel_rfl
theorem c31 : Tryz.prog.cellsOf 31 = 1 := by kernel_rfl
theorem c32 : Tryz.prog.cellsOf 32 = 1 := by kernel_rfl
theorem c34 : Tryz.prog.cellsOf 34 = 6 := by kernel_rfl
theorem c90 : Tryz.prog.cellsOf 90 = 2 := by kernel_rfl
theorem u3 : Tryz.prog.underlying 3 = some (.int .i64) := by kernel_rfl
theorem u4 : Tryz.prog.underlying 4 = some .bool := by kernel_rfl
theorem u21 : Tryz.prog.underlying 21 = some (.int .i32) := by kernel_rfl
theorem u31 : Tryz.prog.underlying 31 = some (.slice 90) := by kernel_rfl
theorem u32 : Tryz.prog.underlying 32 = some (.slice 34) := by kernel_rfl
theorem range_read {fuel : Nat} {cs : List Value} {d : DataW H} {ps : List MemPlace} (h : DataW.trod enc Tryz.prog W 0 (fun _ => true) true fuel 90 cs = some (d, ps)) : ∃ r : Int × Int, cs = rgV r := by
  obtain ⟨xs, n, _, _, _, hl, hx⟩ := struct_read fields90 (by simp) h
  rw [c90] at hl
  obtain ⟨y0, _, h0⟩ := hx 0 (21, 0) rfl
  obtain ⟨y1, _, h1⟩ := hx 1 (21, 1) rfl
  rw [c21] at h0 h1
  obtain ⟨a, ha, _⟩ := DataW.trod_int u21 h0
  obtain ⟨b, hb, _⟩ := DataW.trod_int u21 h1
  have ha := oneCell ha
  have hb := oneCell hb
  match cs, hl with
  | [x0, x1], _ => simp at ha hb; subst ha hb; exact ⟨(a, b), rfl⟩
theorem wf64 {n : Int} (h : (Lit.int .i64 n).wf = true) : -9223372036854775808 ≤ n ∧ n < 9223372036854775808 := by
  unfold Lit.wf at h
  simp only [Bool.and_eq_true, decide_eq_true_eq] at h
  have e1 : IntKind.min .i64 = -9223372036854775808 := by decide
  have e2 : IntKind.max .i64 = 9223372036854775807 := by decide
  rw [e1, e2] at h
  omega
theorem nds_map {n : Nat} {t : Nat → WN} : WN.nds ((List.range n).map t) = (List.range n).map fun i => (t i).nd := by
  have : ∀ l : List Nat, WN.nds (l.map t) = l.map fun i => (t i).nd := by
    intro l; induction l with
    | nil => rfl
    | cons x l ih => rw [List.map_cons, WN.nds, ih, List.map_cons]
  exact this _
theorem sizeL_sum : ∀ ns : List Nd, sizeL ns = (ns.map size).sum
  | [] => by rw [sizeL]; rfl
  | n :: ns => by rw [sizeL, sizeL_sum ns, List.map_cons, List.sum_cons]
theorem oks_all : ∀ {ns : List WN}, (∀ n ∈ ns, WN.ok W n) → WN.oks W ns
  | [], _ => by rw [WN.oks]; trivial
  | n :: ns, h => by rw [WN.oks]; exact ⟨h n (by simp), oks_all fun m hm => h m (by simp [hm])⟩
theorem fitL_all : ∀ {ns : List Nd}, (∀ n ∈ ns, fit n) → fitL ns
  | [], _ => by rw [fitL]; trivial
  | n :: ns, h => by rw [fitL]; exact ⟨h n (by simp), fitL_all fun m hm => h m (by simp [hm])⟩
theorem ones : ∀ l : List Nat, (l.map fun _ => (1 : Nat)).sum = l.length
  | [] => rfl
  | x :: l => by rw [List.map_cons, List.sum_cons, ones l, List.length_cons]; omega
theorem node_read : ∀ (m fuel : Nat) (cs : List Value) (d : DataW H) (ps : List MemPlace), Rows.uptoBulk d ≤ m → DataW.trod enc Tryz.prog W 0 (fun _ => true) true fuel 34 cs = some (d, ps) → W.noneFrozen ps → m < 4611686018427387904 →
    ∃ t : WN, t.cells = cs ∧ t.ok W ∧ fit t.nd ∧ size t.nd ≤ Rows.uptoBulk d := by
  intro m
  induction m with
  | zero =>
    intro fuel cs d ps hm
    exfalso
    have : 1 ≤ Rows.uptoBulk d := by cases d with
      | lit l => cases l <;> simp [Rows.uptoBulk]
      | _ => simp [Rows.uptoBulk]
    omega
  | succ m ih =>
    intro fuel cs d ps hm h hf hmb
    obtain ⟨xs, n, _, hd, hps, hl, hx⟩ := struct_read fields34 (by simp) h
    rw [c34] at hl
    obtain ⟨y0, z0, h0⟩ := hx 0 (3, 0) rfl
    obtain ⟨y1, z1, h1⟩ := hx 1 (31, 1) rfl
    obtain ⟨y2, z2, h2⟩ := hx 2 (4, 2) rfl
    obtain ⟨y3, z3, h3⟩ := hx 3 (32, 3) rfl
    obtain ⟨y4, z4, h4⟩ := hx 4 (3, 4) rfl
    obtain ⟨y5, z5, h5⟩ := hx 5 (3, 5) rfl
    rw [c3] at h0 h4 h5
    rw [c31] at h1
    rw [c4] at h2
    rw [c32] at h3
    obtain ⟨k, hk, _⟩ := DataW.trod_int u3 h0
    obtain ⟨no, hno, _⟩ := DataW.trod_bool u4 h2
    obtain ⟨mn, hmn, _, wmn⟩ := DataW.trod_int u3 h4
    obtain ⟨mx, hmx, _, wmx⟩ := DataW.trod_int u3 h5
    have wmn := wf64 wmn
    have wmx := wf64 wmx
    have fr : ∀ {i : Nat} {y : DataW H × List MemPlace}, xs[i]? = some y → W.noneFrozen y.2 := fun hy => free_sub hf fun p hp => by
      rw [hps]; exact List.mem_flatMap.2 ⟨_, List.mem_of_getElem? hy, hp⟩
    have bk : ∀ {i : Nat} {y : DataW H × List MemPlace}, xs[i]? = some y → Rows.uptoBulk y.1 + 1 ≤ Rows.uptoBulk d := fun {i y} hy => by
      rw [hd]
      have := bulk_part (List.mem_map.2 ⟨y, List.mem_of_getElem? hy, rfl⟩ : y.1 ∈ xs.map (·.1))
      simp only [Rows.uptoBulk]; omega
    have b1 := bk z1
    have b3 := bk z3
    -- the ranges
    obtain ⟨sa, set, hs1, hs2, hs3⟩ : ∃ (sa : SlW) (set : List (Int × Int)), ((cs.drop 1).take 1 = [slV sa set.length]) ∧ slOk W sa 2 set.length (set.flatMap rgV) ∧ set.length ≤ Rows.uptoBulk y1.1 := by
      obtain ⟨d1, p1⟩ := y1
      rcases row_read c90 (by omega) u31 h1 (fr z1) with ⟨q1, q2⟩ | ⟨a, len, cap, n1, D, Pl, CS, rest, q1, q2, q3, q4⟩
      · exact ⟨none, [], q1, ⟨rfl, rfl⟩, Nat.zero_le _⟩
      · obtain ⟨r, hr⟩ := choose_lt (α := Int × Int) (p := fun i r => CS i = rgV r) (fun i hi => range_read (q3 i hi).1)
        have e : (List.range len).flatMap CS = ((List.range len).map r).flatMap rgV := by
          rw [List.flatMap_map]
          exact flatMap_congr_range fun i hi => hr i hi
        refine ⟨some (a, cap), (List.range len).map r, by rw [q1]; simp [slV], ?_, ?_⟩
        · rw [← e]; simpa using q4
        · show ((List.range len).map r).length ≤ Rows.uptoBulk d1
          rw [q2]
          have := bulk_sum (l := List.range len) (f := D) (g := fun _ => 1) (fun x _ => by
            cases D x with
            | lit l => cases l <;> simp [Rows.uptoBulk]
            | _ => simp [Rows.uptoBulk])
          rw [ones, List.length_range] at this
          rw [List.length_map, List.length_range]
          show len ≤ Rows.uptoBulkAll ((List.range len).map D) + Rows.uptoBulkAll rest + 1
          omega
    -- the kids
    obtain ⟨ka, kids, hk1, hk2, hk3, hk4, hk5⟩ : ∃ (ka : SlW) (kids : List WN), ((cs.drop 3).take 1 = [slV ka kids.length]) ∧ slOk W ka 6 kids.length (kids.flatMap WN.cells) ∧ WN.oks W kids ∧ fitL (WN.nds kids) ∧ sizeL (WN.nds kids) ≤ Rows.uptoBulk y3.1 := by
      obtain ⟨d3, p3⟩ := y3
      rcases row_read c34 (by omega) u32 h3 (fr z3) with ⟨q1, q2⟩ | ⟨a, len, cap, n1, D, Pl, CS, rest, q1, q2, q3, q4⟩
      · exact ⟨none, [], q1, ⟨rfl, rfl⟩, by rw [WN.oks]; trivial, by rw [WN.nds, fitL]; trivial, by rw [WN.nds, sizeL]; exact Nat.zero_le _⟩
      · have b3 : Rows.uptoBulk d3 + 1 ≤ Rows.uptoBulk d := b3
        have hD : ∀ i, i < len → Rows.uptoBulk (D i) ≤ m := fun i hi => by
          have := bulk_part (List.mem_map.2 ⟨i, List.mem_range.2 hi, rfl⟩ : D i ∈ (List.range len).map D)
          rw [q2] at b3
          simp only [Rows.uptoBulk] at b3
          omega
        haveI : Inhabited WN := ⟨.mk 0 none [] false none [] 0 0⟩
        obtain ⟨t, ht⟩ := choose_lt (α := WN) (p := fun i t => t.cells = CS i ∧ t.ok W ∧ fit t.nd ∧ size t.nd ≤ Rows.uptoBulk (D i)) (fun i hi => ih n1 (CS i) (D i) (Pl i) (hD i hi) (q3 i hi).1 (q3 i hi).2 (by omega))
        have e : (List.range len).flatMap CS = ((List.range len).map t).flatMap WN.cells := by
          rw [List.flatMap_map]
          exact flatMap_congr_range fun i hi => (ht i hi).1.symm
        refine ⟨some (a, cap), (List.range len).map t, by rw [q1]; simp [slV], ?_, oks_all fun x hx => ?_, ?_, ?_⟩
        · rw [← e]; simpa using q4
        · obtain ⟨i, hi, rfl⟩ := List.mem_map.1 hx
          exact (ht i (List.mem_range.1 hi)).2.1
        · rw [nds_map]
          refine fitL_all fun x hx => ?_
          obtain ⟨i, hi, rfl⟩ := List.mem_map.1 hx
          exact (ht i (List.mem_range.1 hi)).2.2.1
        · show sizeL (WN.nds ((List.range len).map t)) ≤ Rows.uptoBulk d3
          rw [nds_map, sizeL_sum, List.map_map, q2]
          have := bulk_sum (l := List.range len) (f := D) (g := fun i => size (t i).nd) (fun i hi => (ht i (List.mem_range.1 hi)).2.2.2)
          simp only [Rows.uptoBulk]
          exact Nat.le_trans this (by omega)
    refine ⟨.mk k sa set no ka kids mn mx, ?_, ?_, ?_, ?_⟩
    · exact (six hl (oneCell hk) (oneCell hs1) (oneCell hno) (oneCell hk1) (oneCell hmn) (oneCell hmx)).symm
    · rw [WN.ok]; exact ⟨hs2, hk2, hk3⟩
    · rw [WN.nd, fit]
      refine ⟨by omega, ?_, wmn, wmx, hk4⟩
      have := length_sizeL (WN.nds kids)
      omega
    · rw [WN.nd, size]
      omega
end
end Go.Proofs.YtiebldaihnbkmaaGreatDoor

/-
  What is proved here: the walk of rotuluslaw14.BaseTurn: the text is turned at one byte in memory, and read by both decoders. Conditions: what the called functions answer is handed in.
-/
import Derived.Test.YtiebldaihnbkmaaGreatDoorPBasex4
import Derived.Lib.ConvBytes
import Derived.Laws.IdiomStrings
namespace Go.Proofs.YtiebldaihnbkmaaGreatDoor.PBase
open Go.RowKit Go.Proofs.YtiebldaihnbkmaaGreatDoorW.PrintWords Go.Proofs.YtiebldaihnbkmaaGreatDoorW.PrintLast Go.Proofs.YtiebldaihnbkmaaGreatDoorW.PrintMore
attribute [local go_sem] max2_int min2_int max_two min_two max_three min_three max_four min_four
set_option linter.unusedVariables false
set_option linter.unusedSimpArgs false
theorem bytes_below {u w : World} (h : Below u.heap.size u w) (s : ByteArray) : Below u.heap.size u (Lib.bytesWorld w 5 s) :=
  ⟨by rw [show (Lib.bytesWorld w 5 s).os = w.os from rfl]; exact h.os, by rw [show (Lib.bytesWorld w 5 s).tape = w.drew.tape from rfl]; exact h.drew.tape, by rw [show (Lib.bytesWorld w 5 s).output = w.output from rfl]; exact h.output, by rw [Lib.bytesWorld_size]; have := h.size; omega, fun k hk => by
    have hs := h.size
    rw [Lib.bytesWorld_at_old w 5 s k (by omega)]; exact h.block k hk⟩
set_option maxHeartbeats 2000000 in
set_option maxRecDepth 100000 in
theorem turn_short (k : Nat) (a0 s P : ByteArray) (at_ x : Int) (w : World) (hs : rotuluslaw1_Short.f a0 40 = some s) (hP : base_Put.f k s = some P)
    (hc : ((P.size : Int) == 0) = true) (b : Bool) (hb : s.toList.isEmpty = b) :
    Calls Tryz.prog 4 #[.string a0, .int .i64 at_, .int .u8 x] w fun e w' => e = .returned (.bool (b || decide (at_ < 0))) ∧ Below w.heap.size w w' := by
  have HB := Aside0.mk (Below.refl w.heap.size w)
  have kc := fun (w : World) => Lib.run_convert_string_bytes (P := Tryz.prog) w 9 28 5 P Tryz.underlying9 Tryz.underlying28 Tryz.underlying5
  cases b
  all_goals
    cases ha : decide (at_ < 0)
    all_goals
      go_enter Tryz.func4, Tryz.ntmps4
      go_wp2_with (first | ((with_reducible refine gate_callee (f := 16) rfl ?_); refine goesL_ (some 18) rfl rfl Tryz.func16 (by kernel_rfl) rfl #[] rfl (by (try simp only [List.map_toArray, List.map_cons, List.map_nil]); first | done | rfl | (simp only [List.length_drop, List.length_take]; rfl)) ?_; (with_reducible refine (rotuluslaw14_begun.calls true _ rfl).mono ?_); rintro e w1 ⟨rfl, hb⟩; refine ⟨_, rfl, ?_⟩; have n0_ := Aside0.mk (below_step HB.out hb); clear HB; have HB := n0_; clear n0_; clear hb) | ((with_reducible refine gate_callee (f := 17) rfl ?_); refine goesL_ (some 22) rfl rfl Tryz.func17 (by kernel_rfl) rfl #[.string a0, .int .i64 40] rfl (by (try simp only [List.map_toArray, List.map_cons, List.map_nil]); first | done | rfl | (simp only [List.length_drop, List.length_take]; rfl)) ?_; (with_reducible refine (rotuluslaw1_Short.calls a0 40 s _ hs).mono ?_); rintro e w2 ⟨rfl, hb⟩; refine ⟨_, rfl, ?_⟩; have n0_ := Aside0.mk (below_step HB.out hb); clear HB; have HB := n0_; clear n0_; clear hb) | ((with_reducible refine gate_callee (f := 18) rfl ?_); refine goesL_ (some 24) rfl rfl Tryz.func18 (by kernel_rfl) rfl #[.string s] rfl (by (try simp only [List.map_toArray, List.map_cons, List.map_nil]); first | done | rfl | (simp only [List.length_drop, List.length_take]; rfl)) ?_; (with_reducible refine (base_Put.calls k s P _ hP).mono ?_); rintro e w3 ⟨rfl, hb⟩; refine ⟨_, rfl, ?_⟩; have n0_ := Aside0.mk (below_step HB.out hb); clear HB; have HB := n0_; clear n0_; clear hb))
      go_ret
      exact ⟨by simp [ha], bytes_below HB.out _⟩
set_option maxHeartbeats 2000000 in
set_option maxRecDepth 100000 in
theorem turn_neg (k : Nat) (a0 s P : ByteArray) (at_ x : Int) (w : World) (hs : rotuluslaw1_Short.f a0 40 = some s) (hP : base_Put.f k s = some P)
    (hc : ((P.size : Int) == 0) = false) (ha : decide (at_ < 0) = true) (b : Bool) (hb : s.toList.isEmpty = b) :
    Calls Tryz.prog 4 #[.string a0, .int .i64 at_, .int .u8 x] w fun e w' => e = .returned (.bool true) ∧ Below w.heap.size w w' := by
  have HB := Aside0.mk (Below.refl w.heap.size w)
  have kc := fun (w : World) => Lib.run_convert_string_bytes (P := Tryz.prog) w 9 28 5 P Tryz.underlying9 Tryz.underlying28 Tryz.underlying5
  cases b
  all_goals
    go_enter Tryz.func4, Tryz.ntmps4
    go_wp2_with (first | ((with_reducible refine gate_callee (f := 16) rfl ?_); refine goesL_ (some 18) rfl rfl Tryz.func16 (by kernel_rfl) rfl #[] rfl (by (try simp only [List.map_toArray, List.map_cons, List.map_nil]); first | done | rfl | (simp only [List.length_drop, List.length_take]; rfl)) ?_; (with_reducible refine (rotuluslaw14_begun.calls true _ rfl).mono ?_); rintro e w1 ⟨rfl, hb⟩; refine ⟨_, rfl, ?_⟩; have n0_ := Aside0.mk (below_step HB.out hb); clear HB; have HB := n0_; clear n0_; clear hb) | ((with_reducible refine gate_callee (f := 17) rfl ?_); refine goesL_ (some 22) rfl rfl Tryz.func17 (by kernel_rfl) rfl #[.string a0, .int .i64 40] rfl (by (try simp only [List.map_toArray, List.map_cons, List.map_nil]); first | done | rfl | (simp only [List.length_drop, List.length_take]; rfl)) ?_; (with_reducible refine (rotuluslaw1_Short.calls a0 40 s _ hs).mono ?_); rintro e w2 ⟨rfl, hb⟩; refine ⟨_, rfl, ?_⟩; have n0_ := Aside0.mk (below_step HB.out hb); clear HB; have HB := n0_; clear n0_; clear hb) | ((with_reducible refine gate_callee (f := 18) rfl ?_); refine goesL_ (some 24) rfl rfl Tryz.func18 (by kernel_rfl) rfl #[.string s] rfl (by (try simp only [List.map_toArray, List.map_cons, List.map_nil]); first | done | rfl | (simp only [List.length_drop, List.length_take]; rfl)) ?_; (with_reducible refine (base_Put.calls k s P _ hP).mono ?_); rintro e w3 ⟨rfl, hb⟩; refine ⟨_, rfl, ?_⟩; have n0_ := Aside0.mk (below_step HB.out hb); clear HB; have HB := n0_; clear n0_; clear hb))
    go_ret
    exact ⟨by simp, bytes_below HB.out _⟩
theorem frozen_ (w : World) (P : ByteArray) {i : Nat} (hi : i < P.size) : (Lib.bytesWorld w 5 P).frozen? ⟨w.heap.size, i, none⟩ = false := by
  have hs : P.size ≤ (Lib.bytesCells w 5 P).size := by unfold Lib.bytesCells; simp
  have h : ¬ (Lib.bytesCells w 5 P).size ≤ i := by omega
  simp [World.frozen?, Lib.bytesWorld_at_new, h]
theorem back_ (w : World) (P : ByteArray) : (convert 28 9 (.slice (some ⟨w.heap.size, 0, none⟩) P.size (grownCap w P.size 0 5))).run Tryz.prog (Lib.bytesWorld w 5 P) = .ok (.string P) (Lib.bytesWorld w 5 P) := by
  have h := run_convert_bytes_back (P := Tryz.prog) (Lib.bytesWorld w 5 P) 28 9 5 ⟨w.heap.size, 0, none⟩ (grownCap w P.size 0 5) P.data.toList Tryz.underlying28 Tryz.underlying5 Tryz.underlying9 (fun j hj => by
    have hj' : j < P.size := by simpa using hj
    have := Lib.bytesWorld_cell w 5 P j hj'
    have e : Addr.add ⟨w.heap.size, 0, none⟩ j = ⟨w.heap.size, j, none⟩ := by
      unfold Addr.add
      by_cases h0 : j = 0
      · subst h0; simp
      · simp [h0]
    rw [e]
    simpa [List.getD_eq_getElem?_getD, List.getElem?_eq_getElem hj] using this)
  have hl : P.data.toList.length = P.size := by simp
  rw [hl] at h
  exact h
theorem set_size (w : World) (a : Addr) (v : Value) : (w.setCell a v).heap.size = w.heap.size := by simp [World.setCell]
theorem set_below {u w : World} (h : Below u.heap.size u w) (P : ByteArray) (i : Nat) (v : Value) : Below u.heap.size u ((Lib.bytesWorld w 5 P).setCell ⟨w.heap.size, i, none⟩ v) :=
  (bytes_below h P).setCell h.size v
theorem cells2 (w : World) {P P2 : ByteArray} {i : Nat} {y : Int} (hi : i < P.size) (hn : P2.size = P.size) (hy : (((P2.data.toList.getD i 0).toNat : Nat) : Int) = y) (ho : ∀ j, j ≠ i → P2.data.toList.getD j 0 = P.data.toList.getD j 0) :
    ∀ j, j < P.size → ((Lib.bytesWorld w 5 P).setCell ⟨w.heap.size, i, none⟩ (.int .u8 y)).cell? ⟨w.heap.size, j, none⟩ = some (.int .u8 (((P2.data.toList.getD j 0).toNat : Nat) : Int)) := by
  intro j hj
  by_cases e : j = i
  · subst e
    rw [World.cell?_setCell_same _ _ _ (Lib.bytesWorld_cell w 5 P j hj), hy]
  · have hne : (⟨w.heap.size, i, none⟩ : Addr) ≠ ⟨w.heap.size, j, none⟩ := fun h => e (by injection h with _ h2 _; exact h2.symm)
    rw [World.cell?_setCell_other _ _ _ _ hne, Lib.bytesWorld_cell w 5 P j hj, ho j e]
theorem back2 {W w4 : World} {P2 : ByteArray} {g n cap : Nat} (hb : Below W.heap.size W w4) (hg : g < W.heap.size) (hn : P2.size = n) (hc : ∀ j, j < n → W.cell? ⟨g, j, none⟩ = some (.int .u8 (((P2.data.toList.getD j 0).toNat : Nat) : Int))) :
    (convert 28 9 (.slice (some ⟨g, 0, none⟩) n cap)).run Tryz.prog w4 = .ok (.string P2) w4 := by
  subst hn
  have h := run_convert_bytes_back (P := Tryz.prog) w4 28 9 5 ⟨g, 0, none⟩ cap P2.data.toList Tryz.underlying28 Tryz.underlying5 Tryz.underlying9 (fun j hj => by
    have hj' : j < P2.size := by simpa using hj
    have := hc j hj'
    have e : Addr.add ⟨g, 0, none⟩ j = ⟨g, j, none⟩ := by
      unfold Addr.add
      by_cases h0 : j = 0
      · subst h0; simp
      · simp [h0]
    rw [e, hb.cell (p := ⟨g, j, none⟩) hg, this]
    simp [List.getD_eq_getElem?_getD, List.getElem?_eq_getElem hj])
  have hl : P2.data.toList.length = P2.size := by simp
  rw [hl] at h
  exact h
set_option maxHeartbeats 4000000 in
set_option maxRecDepth 100000 in
theorem turn_in (k : Nat) (a0 s P P2 y1 y2 : ByteArray) (o1 o2 : Bool) (at_ x : Int) (w : World) (hs : rotuluslaw1_Short.f a0 40 = some s) (hP : base_Put.f k s = some P)
    (hc : ((P.size : Int) == 0) = false) (ha : decide (at_ < 0) = false) (i : Nat) (hi : Int.tmod at_ P.size = (i : Int)) (hi2 : i < P.size) (b y : Int) (hb0 : (((P.data.toList.getD i 0).toNat : Nat) : Int) = b)
    (hxy : Go.bits .xor .u8 b x = y) (hn : P2.size = P.size) (hy : (((P2.data.toList.getD i 0).toNat : Nat) : Int) = y) (ho : ∀ j, j ≠ i → P2.data.toList.getD j 0 = P.data.toList.getD j 0)
    (g1 : base_Get.f k P2 = some (y1, o1)) (g2 : rotulusref22_Get.f k P2 = some (y1, o1)) (g3 : base_Get.f k (P.extract 0 i) = some (y2, o2)) (g4 : rotulusref22_Get.f k (P.extract 0 i) = some (y2, o2))
    (hfin : o1 = true → (x == 0) = false → (y1.toList == s.toList) = false) :
    Calls Tryz.prog 4 #[.string a0, .int .i64 at_, .int .u8 x] w fun e w' => e = .returned (.bool true) ∧ Below w.heap.size w w' := by
  have HB := Aside0.mk (Below.refl w.heap.size w)
  have kc := fun (w : World) => Lib.run_convert_string_bytes (P := Tryz.prog) w 9 28 5 P Tryz.underlying9 Tryz.underlying28 Tryz.underlying5
  have kb := fun (w : World) => back_ w P
  have kl : ∀ w : World, (Lib.bytesWorld w 5 P).cell? ⟨w.heap.size, i, none⟩ = some (.int .u8 b) := fun w => by rw [Lib.bytesWorld_cell w 5 P i hi2, hb0]
  have kf : ∀ w : World, (Lib.bytesWorld w 5 P).frozen? ⟨w.heap.size, i, none⟩ = false := fun w => frozen_ w P hi2
  have kx := Aside0.mk hxy
  have k2 : ∀ w : World, (convert 28 9 (.slice (some ⟨w.heap.size, 0, none⟩) P.size (grownCap w P.size 0 5))).run Tryz.prog ((Lib.bytesWorld w 5 P).setCell ⟨w.heap.size, i, none⟩ (.int .u8 (Go.bits .xor .u8 b x))) = .ok (.string P2) ((Lib.bytesWorld w 5 P).setCell ⟨w.heap.size, i, none⟩ (.int .u8 (Go.bits .xor .u8 b x))) := fun w => by
    rw [hxy]
    exact back2 (Below.refl _ _) (by rw [set_size, Lib.bytesWorld_size]; omega) hn (cells2 w hi2 hn hy ho)
  have k3 : Aside0 (∀ w w4 : World, Below ((Lib.bytesWorld w 5 P).setCell ⟨w.heap.size, i, none⟩ (.int .u8 (Go.bits .xor .u8 b x))).heap.size ((Lib.bytesWorld w 5 P).setCell ⟨w.heap.size, i, none⟩ (.int .u8 (Go.bits .xor .u8 b x))) w4 →
      (convert 28 9 (.slice (some ⟨w.heap.size, 0, none⟩) P.size (grownCap w P.size 0 5))).run Tryz.prog w4 = .ok (.string P2) w4) := Aside0.mk fun w w4 hw => by
    rw [hxy] at hw
    exact back2 hw (by rw [set_size, Lib.bytesWorld_size]; omega) hn (cells2 w hi2 hn hy ho)
  have hb1 := Aside0.mk hb0
  have hy1 := Aside0.mk hy
  have ho1 := Aside0.mk ho
  have hf1 := Aside0.mk hfin
  clear hb0 hy ho hxy hfin
  cases o1
  all_goals
    cases hx : (x == 0)
    all_goals
      cases hq : (y1.toList == s.toList)
      all_goals
        first
        | exact absurd (hf1.out rfl hx) (by rw [hq]; decide)
        | (go_enter Tryz.func4, Tryz.ntmps4
           go_wp2_with (first | ((with_reducible refine gate_callee (f := 16) rfl ?_); refine goesL_ (some 18) rfl rfl Tryz.func16 (by kernel_rfl) rfl #[] rfl (by (try simp only [List.map_toArray, List.map_cons, List.map_nil]); first | done | rfl | (simp only [List.length_drop, List.length_take]; rfl)) ?_; (with_reducible refine (rotuluslaw14_begun.calls true _ rfl).mono ?_); rintro e w1 ⟨rfl, hb⟩; refine ⟨_, rfl, ?_⟩; have n0_ := Aside0.mk (below_step HB.out hb); clear HB; have HB := n0_; clear n0_; clear hb) | ((with_reducible refine gate_callee (f := 17) rfl ?_); refine goesL_ (some 22) rfl rfl Tryz.func17 (by kernel_rfl) rfl #[.string a0, .int .i64 40] rfl (by (try simp only [List.map_toArray, List.map_cons, List.map_nil]); first | done | rfl | (simp only [List.length_drop, List.length_take]; rfl)) ?_; (with_reducible refine (rotuluslaw1_Short.calls a0 40 s _ hs).mono ?_); rintro e w2 ⟨rfl, hb⟩; refine ⟨_, rfl, ?_⟩; have n0_ := Aside0.mk (below_step HB.out hb); clear HB; have HB := n0_; clear n0_; clear hb) | ((with_reducible refine gate_callee (f := 18) rfl ?_); refine goesL_ (some 24) rfl rfl Tryz.func18 (by kernel_rfl) rfl #[.string s] rfl (by (try simp only [List.map_toArray, List.map_cons, List.map_nil]); first | done | rfl | (simp only [List.length_drop, List.length_take]; rfl)) ?_; (with_reducible refine (base_Put.calls k s P _ hP).mono ?_); rintro e w3 ⟨rfl, hb⟩; refine ⟨_, rfl, ?_⟩; have n0_ := Aside0.mk (below_step HB.out hb); clear HB; have HB := n0_; clear n0_; clear hb) | ((with_reducible refine gate_callee (f := 19) rfl ?_); refine goesL_ (some 54) rfl rfl Tryz.func19 (by kernel_rfl) rfl #[.string P2] rfl (by (try simp only [List.map_toArray, List.map_cons, List.map_nil]); first | done | rfl | (simp only [List.length_drop, List.length_take]; rfl)) ?_; (with_reducible refine (base_Get.calls k P2 y1 _ _ g1).mono ?_); rintro e w4 ⟨rfl, hb⟩; refine ⟨_, rfl, ?_⟩; have k4 := k3.out _ _ hb; have n0_ := Aside0.mk (below_step (set_below HB.out P i _) hb); clear HB k3; have HB := n0_; clear n0_; clear hb) | ((with_reducible refine gate_callee (f := 20) rfl ?_); refine goesL_ (some 60) rfl rfl Tryz.func20 (by kernel_rfl) rfl #[.string P2] rfl (by (try simp only [List.map_toArray, List.map_cons, List.map_nil]); first | done | rfl | (simp only [List.length_drop, List.length_take]; rfl)) ?_; (with_reducible refine (rotulusref22_Get.calls k P2 y1 _ _ g2).mono ?_); rintro e w5 ⟨rfl, hb⟩; refine ⟨_, rfl, ?_⟩; have n0_ := Aside0.mk (below_step HB.out hb); clear HB; have HB := n0_; clear n0_; clear hb) | ((with_reducible refine gate_callee (f := 19) rfl ?_); refine goesL_ (some 70) rfl rfl Tryz.func19 (by kernel_rfl) rfl #[.string (P.extract 0 i)] rfl (by (try simp only [List.map_toArray, List.map_cons, List.map_nil]); first | done | rfl | (simp only [List.length_drop, List.length_take]; rfl)) ?_; (with_reducible refine (base_Get.calls k (P.extract 0 i) y2 o2 _ g3).mono ?_); rintro e w6 ⟨rfl, hb⟩; refine ⟨_, rfl, ?_⟩; have n0_ := Aside0.mk (below_step HB.out hb); clear HB; have HB := n0_; clear n0_; clear hb) | ((with_reducible refine gate_callee (f := 20) rfl ?_); refine goesL_ (some 80) rfl rfl Tryz.func20 (by kernel_rfl) rfl #[.string (P.extract 0 i)] rfl (by (try simp only [List.map_toArray, List.map_cons, List.map_nil]); first | done | rfl | (simp only [List.length_drop, List.length_take]; rfl)) ?_; (with_reducible refine (rotulusref22_Get.calls k (P.extract 0 i) y2 o2 _ g4).mono ?_); rintro e w7 ⟨rfl, hb⟩; refine ⟨_, rfl, ?_⟩; have n0_ := Aside0.mk (below_step HB.out hb); clear HB; have HB := n0_; clear n0_; clear hb))
           go_ret
           exact ⟨rfl, HB.out⟩)
end Go.Proofs.YtiebldaihnbkmaaGreatDoor.PBase


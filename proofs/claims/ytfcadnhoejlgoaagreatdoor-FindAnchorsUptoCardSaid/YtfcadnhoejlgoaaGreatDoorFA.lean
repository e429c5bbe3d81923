/-
  What is proved here: where the walks of find begin; what a pattern's machine is told by (plain law, no program in sight). what functions of the pattern's package come to (walks that a program of mine has printed). No conditions but those that the theorems state.
-/
import Derived.Test.YtfcadnhoejlgoaaGreatDoorPureAlt
import Derived.Test.YtfcadnhoejlgoaaGreatDoorPGa
import Derived.Test.YtfcadnhoejlgoaaGreatDoorNR
import Derived.Test.YtfcadnhoejlgoaaGreatDoorNQ
import Derived.Test.YtfcadnhoejlgoaaGreatDoorNT
import Derived.Test.YtfcadnhoejlgoaaGreatDoorRI
set_option linter.unusedVariables false
set_option linter.unusedSimpArgs false
namespace Go.Vai
open Go.Nfa Go.Utf
def hit3D (h : Hit3) : D := .tup [.int .i64 h.1, .int .i64 h.2.1, .bool h.2.2]
theorem next_start (l : List Int) (N : Nd) (a : Int) : ∃ m : Nat, max a 0 = (m : Int) ∧ nextR l N a = nextF l N (l.length - m) m :=
 ⟨(max a 0).toNat, by omega, rfl⟩
theorem last_start (l : List Int) (N : Nd) (a : Int) : ∃ m : Nat, min (max a 0) (l.length : Int) = (m : Int) ∧ m ≤ l.length ∧ lastR l N a = lastF l N m :=
 ⟨(min (max a 0) (l.length : Int)).toNat, by omega, by omega, rfl⟩
theorem atR_at {l : List Int} {N : Nd} {a : Int} (h : ¬ (endsR l N a).length = 0) : atR l N a = (((endsR l N a).getD ((endsR l N a).length - 1) 0 : Nat) : Int) - a := atR_some h rfl
def progQ (t : ByteArray) : D → List Ob → Prop := fun r L1 =>
 (∃ N : Nd, (∀ M, parseM t = some M → ¬ (wr K14 1000000 M ≤ 400 ∧ deep M ≤ 10)) ∧ r = .tup [.agg (celN N), .lit (.pointer none), .bool false] ∧ L1 = []) ∨
 (∃ (N : Nd) (n1 : Nat), parseM t = some N ∧ (machine K14 N).1.length = n1 ∧ wp K14 20001 N ≤ 20000 ∧ deep N ≤ 10 ∧ r = .tup [.agg (celN N), .loc 3 0, .bool true] ∧
  L1 = [.box (celN N), .box (celN N), .box (celN N), .box [.sl 9 n1 ((machine K14 N).1.flatMap encSta), .int .i64 (((machine K14 N).2 : Nat) : Int), .int .i64 ((wp K14 20001 N : Nat) : Int)]])
theorem progQ_none {t : ByteArray} (h : parseM t = none) {N : Nd} : progQ t (.tup [.agg (celN N), .lit (.pointer none), .bool false]) [] := .inl ⟨N, ⟨fun M e => (by rw [h] at e; cases e), rfl, rfl⟩⟩
theorem progQ_big {t : ByteArray} {N : Nd} (h : parseM t = some N) (b : ¬ (wr K14 1000000 N ≤ 400 ∧ deep N ≤ 10)) : progQ t (.tup [.agg (celN N), .lit (.pointer none), .bool false]) [] := .inl ⟨N, ⟨fun M e => (by rw [h] at e; cases e; exact b), rfl, rfl⟩⟩
end Go.Vai
set_option maxRecDepth 100000
set_option maxHeartbeats 4000000
namespace Go.Proofs.YtfcadnhoejlgoaaGreatDoor
open Go.Vai Go.Nfa
noncomputable section
theorem At_ok (k : Int) (set : List (Int × Int)) (no : Bool) (kids : List Nd) (mn mx : Int) (n1 : Nat) (l : List Int) (a : Int) (hf : fit (.mk k set no kids mn mx)) (hal : allLoc locB (.mk k set no kids mn mx)) (hn1 : (machine K14 (.mk k set no kids mn mx)).1.length = n1) (hsb : n1 ≤ 1000000) (hlb : l.length ≤ 1000000) : FnD P ov 16 [.loc 0 0, .sl 1 l.length (l.map (D.int .i32)), .i64 a] [.box [.sl 9 n1 (((machine K14 (.mk k set no kids mn mx)).1).flatMap encSta), .i64 (((machine K14 (.mk k set no kids mn mx)).2 : Nat) : Int), .i64 ((wp K14 20001 (.mk k set no kids mn mx) : Nat) : Int)]] (fun r L1 => r = .i64 (atR l (.mk k set no kids mn mx) a) ∧ L1 = [.box [.sl 9 n1 (((machine K14 (.mk k set no kids mn mx)).1).flatMap encSta), .i64 (((machine K14 (.mk k set no kids mn mx)).2 : Nat) : Int), .i64 ((wp K14 20001 (.mk k set no kids mn mx) : Nat) : Int)]]) := by
 refine FnD.intro (by kernel_rfl) (fn := Tryz.f16) (by kernel_rfl) rfl (by kernel_rfl) fun M a0 g0 hg0 => ?_
 refine CD.seq (CD.region ?_)
 refine OD.rE 1 [(0,.loc 0 0),(1,.sl 1 l.length (l.map (D.int .i32))),(2,.i64 a)] ?_
 refine OD.nil (CD.seq (CD.region ?_))
 refine OD.rE 3 [(2,.i64 a),(8,.loc 0 0),(9,.sl 1 l.length (l.map (D.int .i32))),(10,.i64 a)] ?_
 refine OD.cO [0] [.loc 0 0, .sl 1 l.length (l.map (D.int .i32)), .i64 a] (Ends_ok (.mk k set no kids mn mx) (machine K14 (.mk k set no kids mn mx)).1 (machine K14 (.mk k set no kids mn mx)).2 n1 ((wp K14 20001 (.mk k set no kids mn mx) : Nat) : Int) l a hal rfl (machine_fs hf) hn1 (by omega) (by omega)) (fun r L1 hr => ?_)
 obtain ⟨rfl, rfl⟩ := hr
 refine OD.rE 1 [(2,.i64 a),(7,.sl 1 ((endsR l (.mk k set no kids mn mx) a).length) ((endsR l (.mk k set no kids mn mx) a).map natD))] ?_
 refine OD.nil (CD.seq (CD.seq (CD.region ?_)))
 refine OD.rE 3 [(2,.i64 a),(7,.sl 1 ((endsR l (.mk k set no kids mn mx) a).length) ((endsR l (.mk k set no kids mn mx) a).map natD)),(14,.bool (decide (((((endsR l (.mk k set no kids mn mx) a).length : Nat) : Int) : Int) = 0)))] ?_
 refine OD.nil ?_
 refine CD.condP rfl (fun h1 => ?_) (fun h1 => ?_)
 ·
  refine CD.seq (CD.region ?_)
  refine OD.rE 1 [(6,.i64 0)] ?_
  refine OD.nil (CD.ret ?_)
  (try dsimp only); first | refine resP_r ?_ | refine resP_n ?_
  exact rO 1 (.i64 0) [.box [.sl 9 n1 (((machine K14 (.mk k set no kids mn mx)).1).flatMap encSta), .i64 (((machine K14 (.mk k set no kids mn mx)).2 : Nat) : Int), .i64 ((wp K14 20001 (.mk k set no kids mn mx) : Nat) : Int)]] (⟨congrArg (D.int .i64) ((atR_none (by omega)).symm), rfl⟩)
 ·
  refine CD.skip (CD.seq (CD.region ?_))
  have hel := endsR_len l (.mk k set no kids mn mx) a hal
  have hlb2 := last_bdI (l := l) (N := (.mk k set no kids mn mx)) (a := a) (x := (endsR l (.mk k set no kids mn mx) a).length - 1) hal (by omega)
  refine OD.rE 4 [(2,.i64 a),(15,.sl 1 ((endsR l (.mk k set no kids mn mx) a).length) ((endsR l (.mk k set no kids mn mx) a).map natD)),(18,.i64 (wrapQ .i64 ((((endsR l (.mk k set no kids mn mx) a).length : Nat) : Int) - 1)))] ?_
  refine OD.is 18 rfl (wrn (m := ((endsR l (.mk k set no kids mn mx) a).length) - 1) (by omega) (by omega)) ?_
  refine OD.rE 0 [(2,.i64 a),(15,.sl 1 ((endsR l (.mk k set no kids mn mx) a).length) ((endsR l (.mk k set no kids mn mx) a).map natD)),(18,.i64 ((((endsR l (.mk k set no kids mn mx) a).length) - 1 : Nat) : Int))] ?_
  refine OD.idxSV (i := (((endsR l (.mk k set no kids mn mx) a).length) - 1)) rfl rfl (by kernel_rfl) (by omega) (by omega) ?_
  refine OD.rE 0 [(2,.i64 a),(19,.ep 1 ((endsR l (.mk k set no kids mn mx) a).length) ((endsR l (.mk k set no kids mn mx) a).map natD) (((endsR l (.mk k set no kids mn mx) a).length) - 1))] ?_
  refine OD.ldSV 0 (f := natD) (xs := (endsR l (.mk k set no kids mn mx) a)) rfl (by kernel_rfl) (by first | omega | (simp <;> omega)) ?_
  refine OD.rE 2 [(22,.i64 (wrapQ .i64 (((((endsR l (.mk k set no kids mn mx) a).getD (((endsR l (.mk k set no kids mn mx) a).length) - 1) 0) : Nat) : Int) - a)))] ?_
  refine OD.is 22 rfl (wr64 (by omega) (by omega)) ?_
  refine OD.rE 1 [(6,.i64 (((((endsR l (.mk k set no kids mn mx) a).getD (((endsR l (.mk k set no kids mn mx) a).length) - 1) 0) : Nat) : Int) - a))] ?_
  refine OD.nil (CD.ret ?_)
  (try dsimp only); first | refine resP_r ?_ | refine resP_n ?_
  exact rO 1 (.i64 (((((endsR l (.mk k set no kids mn mx) a).getD (((endsR l (.mk k set no kids mn mx) a).length) - 1) 0) : Nat) : Int) - a)) [.box [.sl 9 n1 (((machine K14 (.mk k set no kids mn mx)).1).flatMap encSta), .i64 (((machine K14 (.mk k set no kids mn mx)).2 : Nat) : Int), .i64 ((wp K14 20001 (.mk k set no kids mn mx) : Nat) : Int)]] (⟨congrArg (D.int .i64) ((atR_at (by omega)).symm), rfl⟩)
theorem Next_ok (k : Int) (set : List (Int × Int)) (no : Bool) (kids : List Nd) (mn mx : Int) (n1 : Nat) (l : List Int) (a : Int) (hf : fit (.mk k set no kids mn mx)) (hal : allLoc locB (.mk k set no kids mn mx)) (hn1 : (machine K14 (.mk k set no kids mn mx)).1.length = n1) (hsb : n1 ≤ 1000000) (hlb : l.length ≤ 1000000) : FnD P ov 12 [.loc 0 0, .sl 1 l.length (l.map (D.int .i32)), .i64 a] [.box [.sl 9 n1 (((machine K14 (.mk k set no kids mn mx)).1).flatMap encSta), .i64 (((machine K14 (.mk k set no kids mn mx)).2 : Nat) : Int), .i64 ((wp K14 20001 (.mk k set no kids mn mx) : Nat) : Int)]] (fun r L1 => r = hit3D (nextR l (.mk k set no kids mn mx) a) ∧ L1 = [.box [.sl 9 n1 (((machine K14 (.mk k set no kids mn mx)).1).flatMap encSta), .i64 (((machine K14 (.mk k set no kids mn mx)).2 : Nat) : Int), .i64 ((wp K14 20001 (.mk k set no kids mn mx) : Nat) : Int)]]) := by
 refine FnD.intro (by kernel_rfl) (fn := Tryz.f12) (by kernel_rfl) rfl (by kernel_rfl) fun M a0 g0 hg0 => ?_
 refine CD.seq (CD.region ?_)
 refine OD.rE 3 [(0,.loc 0 0),(1,.sl 1 l.length (l.map (D.int .i32))),(2,.i64 a)] ?_
 refine OD.nil (CD.seq (CD.seq (CD.region ?_)))
 refine OD.rE 2 [(0,.loc 0 0),(1,.sl 1 l.length (l.map (D.int .i32))),(12,.i64 (max (a : Int) 0))] ?_
 obtain ⟨m0, hm0, hnr⟩ := next_start l (.mk k set no kids mn mx) a
 refine OD.is 12 rfl (congrArg (D.int .i64) hm0) ?_
 refine OD.rE 1 [(0,.loc 0 0),(1,.sl 1 l.length (l.map (D.int .i32))),(9,.i64 m0)] ?_
 refine OD.nil (CD.block ?_)
 refine CD.weak [0, 1, 9] 1 (E' := [(0, .loc 0 0), (1, .sl 1 l.length (l.map (D.int .i32))), (9, .i64 m0)]) (by kernel_rfl) (by simp [hg0]) (by kernel_rfl) ?_
 refine CD.loop (fun m σ => ∃ (i : Nat), σ = ⟨[(0, .loc 0 0), (1, .sl 1 l.length (l.map (D.int .i32))), (9, .i64 i)], [.box [.sl 9 n1 (((machine K14 (.mk k set no kids mn mx)).1).flatMap encSta), .i64 (((machine K14 (.mk k set no kids mn mx)).2 : Nat) : Int), .i64 ((wp K14 20001 (.mk k set no kids mn mx) : Nat) : Int)]]⟩ ∧ (nextF l (.mk k set no kids mn mx) (l.length - m0) m0 = nextF l (.mk k set no kids mn mx) (l.length - i) i) ∧ m = l.length - i) (fun m σ hI => ?_) _ ⟨m0, (by kernel_rfl), rfl, rfl⟩
 obtain ⟨i, e, hr, hm⟩ := hI
 subst e hm
 refine CD.seq (CD.seq (CD.region ?_))
 refine OD.rE 4 [(0,.loc 0 0),(1,.sl 1 l.length (l.map (D.int .i32))),(9,.i64 i),(16,.bool (decide ((((i : Nat) : Int) : Int) < ((l.length : Nat) : Int))))] ?_
 refine OD.nil ?_
 refine CD.condP rfl (fun h1 => ?_) (fun h1 => ?_)
 ·
  refine CD.skip (CD.seq (CD.block (CD.seq (CD.region ?_))))
  refine OD.rE 3 [(0,.loc 0 0),(1,.sl 1 l.length (l.map (D.int .i32))),(9,.i64 i),(19,.loc 0 0),(20,.sl 1 l.length (l.map (D.int .i32))),(21,.i64 i)] ?_
  refine OD.cO [0] [.loc 0 0, .sl 1 l.length (l.map (D.int .i32)), .i64 i] (At_ok k set no kids mn mx n1 l ((i : Nat) : Int) hf hal hn1 hsb hlb) (fun r L1 hr => ?_)
  obtain ⟨rfl, rfl⟩ := hr
  refine OD.rE 1 [(0,.loc 0 0),(1,.sl 1 l.length (l.map (D.int .i32))),(9,.i64 i),(10,.i64 (atR l (.mk k set no kids mn mx) ((i : Nat) : Int)))] ?_
  refine OD.nil (CD.seq (CD.region ?_))
  refine OD.rE 2 [(0,.loc 0 0),(1,.sl 1 l.length (l.map (D.int .i32))),(9,.i64 i),(10,.i64 (atR l (.mk k set no kids mn mx) ((i : Nat) : Int))),(24,.bool (decide ((0 : Int) < (atR l (.mk k set no kids mn mx) ((i : Nat) : Int)))))] ?_
  refine OD.nil ?_
  refine CD.condP rfl (fun h2 => ?_) (fun h2 => ?_)
  ·
   refine CD.seq (CD.region ?_)
   refine OD.rE 5 [(6,.i64 i),(7,.i64 (atR l (.mk k set no kids mn mx) ((i : Nat) : Int))),(8,.bool true)] ?_
   refine OD.nil (CD.ret ?_)
   (try dsimp only); first | refine resP_r ?_ | refine resP_n ?_
   exact rO 1 (.tup [.i64 i, .i64 (atR l (.mk k set no kids mn mx) ((i : Nat) : Int)), .bool true]) [.box [.sl 9 n1 (((machine K14 (.mk k set no kids mn mx)).1).flatMap encSta), .i64 (((machine K14 (.mk k set no kids mn mx)).2 : Nat) : Int), .i64 ((wp K14 20001 (.mk k set no kids mn mx) : Nat) : Int)]] (⟨(congrArg hit3D (show nextR l (.mk k set no kids mn mx) a = (((i : Nat) : Int), (atR l (.mk k set no kids mn mx) ((i : Nat) : Int)), true) from by rw [hnr, hr, nextF_hit (by omega) h2])).symm, rfl⟩)
  ·
   refine CD.skip (CD.region ?_)
   refine OD.rE 2 [(0,.loc 0 0),(1,.sl 1 l.length (l.map (D.int .i32))),(18,.i64 (wrapQ .i64 (((i : Nat) : Int) + 1)))] ?_
   refine OD.is 18 rfl (wrn (m := i + 1) (by omega) (by omega)) ?_
   refine OD.rE 1 [(0,.loc 0 0),(1,.sl 1 l.length (l.map (D.int .i32))),(9,.i64 ((i + 1 : Nat) : Int))] ?_
   refine OD.nil ?_
   exact ⟨_, by omega, i + 1, (by kernel_rfl), by rw [hr, nextF_go (by omega) h2], rfl⟩
 ·
  refine CD.exit ?_
  refine CD.seq (CD.region ?_)
  refine OD.rE 3 [(6,.i64 0),(7,.i64 0),(8,.bool false)] ?_
  refine OD.nil (CD.ret ?_)
  (try dsimp only); first | refine resP_r ?_ | refine resP_n ?_
  exact rO 1 (.tup [.i64 0, .i64 0, .bool false]) [.box [.sl 9 n1 (((machine K14 (.mk k set no kids mn mx)).1).flatMap encSta), .i64 (((machine K14 (.mk k set no kids mn mx)).2 : Nat) : Int), .i64 ((wp K14 20001 (.mk k set no kids mn mx) : Nat) : Int)]] (⟨(congrArg hit3D (show nextR l (.mk k set no kids mn mx) a = (0, 0, false) from by rw [hnr, hr, nextF_end (by omega)])).symm, rfl⟩)
theorem Last_ok (k : Int) (set : List (Int × Int)) (no : Bool) (kids : List Nd) (mn mx : Int) (n1 : Nat) (l : List Int) (a : Int) (hf : fit (.mk k set no kids mn mx)) (hal : allLoc locB (.mk k set no kids mn mx)) (hn1 : (machine K14 (.mk k set no kids mn mx)).1.length = n1) (hsb : n1 ≤ 1000000) (hlb : l.length ≤ 1000000) : FnD P ov 14 [.loc 0 0, .sl 1 l.length (l.map (D.int .i32)), .i64 a] [.box [.sl 9 n1 (((machine K14 (.mk k set no kids mn mx)).1).flatMap encSta), .i64 (((machine K14 (.mk k set no kids mn mx)).2 : Nat) : Int), .i64 ((wp K14 20001 (.mk k set no kids mn mx) : Nat) : Int)]] (fun r L1 => r = hit3D (lastR l (.mk k set no kids mn mx) a) ∧ L1 = [.box [.sl 9 n1 (((machine K14 (.mk k set no kids mn mx)).1).flatMap encSta), .i64 (((machine K14 (.mk k set no kids mn mx)).2 : Nat) : Int), .i64 ((wp K14 20001 (.mk k set no kids mn mx) : Nat) : Int)]]) := by
 refine FnD.intro (by kernel_rfl) (fn := Tryz.f14) (by kernel_rfl) rfl (by kernel_rfl) fun M a0 g0 hg0 => ?_
 refine CD.seq (CD.region ?_)
 refine OD.rE 3 [(0,.loc 0 0),(1,.sl 1 l.length (l.map (D.int .i32))),(2,.i64 a)] ?_
 refine OD.nil (CD.seq (CD.seq (CD.region ?_)))
 refine OD.rE 5 [(0,.loc 0 0),(1,.sl 1 l.length (l.map (D.int .i32))),(15,.i64 (min (max (a : Int) 0 : Int) ((l.length : Nat) : Int)))] ?_
 obtain ⟨m0, hm0, hm1, hlr⟩ := last_start l (.mk k set no kids mn mx) a
 refine OD.is 15 rfl (congrArg (D.int .i64) hm0) ?_
 refine OD.rE 1 [(0,.loc 0 0),(1,.sl 1 l.length (l.map (D.int .i32))),(16,.i64 (wrapQ .i64 (((m0 : Nat) : Int) - 1)))] ?_
 refine OD.is 16 rfl (wr64 (by omega) (by omega)) ?_
 refine OD.rE 1 [(0,.loc 0 0),(1,.sl 1 l.length (l.map (D.int .i32))),(9,.i64 (((m0 : Nat) : Int) - 1))] ?_
 refine OD.nil (CD.block ?_)
 refine CD.weak [0, 1, 9] 1 (E' := [(0, .loc 0 0), (1, .sl 1 l.length (l.map (D.int .i32))), (9, .i64 (((m0 : Nat) : Int) - 1))]) (by kernel_rfl) (by simp [hg0]) (by kernel_rfl) ?_
 refine CD.loop (fun m σ => ∃ (i : Nat), σ = ⟨[(0, .loc 0 0), (1, .sl 1 l.length (l.map (D.int .i32))), (9, .i64 (((i : Nat) : Int) - 1))], [.box [.sl 9 n1 (((machine K14 (.mk k set no kids mn mx)).1).flatMap encSta), .i64 (((machine K14 (.mk k set no kids mn mx)).2 : Nat) : Int), .i64 ((wp K14 20001 (.mk k set no kids mn mx) : Nat) : Int)]]⟩ ∧ (i ≤ l.length) ∧ (lastF l (.mk k set no kids mn mx) m0 = lastF l (.mk k set no kids mn mx) i) ∧ m = i + 1) (fun m σ hI => ?_) _ ⟨m0, (by kernel_rfl), hm1, rfl, rfl⟩
 obtain ⟨i, e, hi, hr, hm⟩ := hI
 subst e hm
 refine CD.seq (CD.seq (CD.region ?_))
 refine OD.rE 2 [(0,.loc 0 0),(1,.sl 1 l.length (l.map (D.int .i32))),(9,.i64 (((i : Nat) : Int) - 1)),(18,.bool (decide ((0 : Int) ≤ (((i : Nat) : Int) - 1))))] ?_
 refine OD.nil ?_
 refine CD.condP rfl (fun h1 => ?_) (fun h1 => ?_)
 ·
  refine CD.skip (CD.seq (CD.block (CD.seq (CD.region ?_))))
  obtain ⟨j, hj⟩ : ∃ j, i = j + 1 := ⟨i - 1, by omega⟩
  refine OD.is 9 rfl (congrArg (D.int .i64) (show ((i : Nat) : Int) - 1 = ((j : Nat) : Int) by omega)) ?_
  refine OD.rE 3 [(0,.loc 0 0),(1,.sl 1 l.length (l.map (D.int .i32))),(9,.i64 j),(21,.loc 0 0),(22,.sl 1 l.length (l.map (D.int .i32))),(23,.i64 j)] ?_
  refine OD.cO [0] [.loc 0 0, .sl 1 l.length (l.map (D.int .i32)), .i64 j] (At_ok k set no kids mn mx n1 l ((j : Nat) : Int) hf hal hn1 hsb hlb) (fun r L1 hr => ?_)
  obtain ⟨rfl, rfl⟩ := hr
  refine OD.rE 1 [(0,.loc 0 0),(1,.sl 1 l.length (l.map (D.int .i32))),(9,.i64 j),(10,.i64 (atR l (.mk k set no kids mn mx) ((j : Nat) : Int)))] ?_
  refine OD.nil (CD.seq (CD.region ?_))
  refine OD.rE 2 [(0,.loc 0 0),(1,.sl 1 l.length (l.map (D.int .i32))),(9,.i64 j),(10,.i64 (atR l (.mk k set no kids mn mx) ((j : Nat) : Int))),(26,.bool (decide ((0 : Int) < (atR l (.mk k set no kids mn mx) ((j : Nat) : Int)))))] ?_
  refine OD.nil ?_
  refine CD.condP rfl (fun h2 => ?_) (fun h2 => ?_)
  ·
   refine CD.seq (CD.region ?_)
   refine OD.rE 5 [(6,.i64 j),(7,.i64 (atR l (.mk k set no kids mn mx) ((j : Nat) : Int))),(8,.bool true)] ?_
   refine OD.nil (CD.ret ?_)
   (try dsimp only); first | refine resP_r ?_ | refine resP_n ?_
   exact rO 1 (.tup [.i64 j, .i64 (atR l (.mk k set no kids mn mx) ((j : Nat) : Int)), .bool true]) [.box [.sl 9 n1 (((machine K14 (.mk k set no kids mn mx)).1).flatMap encSta), .i64 (((machine K14 (.mk k set no kids mn mx)).2 : Nat) : Int), .i64 ((wp K14 20001 (.mk k set no kids mn mx) : Nat) : Int)]] (⟨(congrArg hit3D (show lastR l (.mk k set no kids mn mx) a = (((j : Nat) : Int), (atR l (.mk k set no kids mn mx) ((j : Nat) : Int)), true) from by rw [hlr, hr, hj, lastF_hit h2])).symm, rfl⟩)
  ·
   refine CD.skip (CD.region ?_)
   refine OD.rE 2 [(0,.loc 0 0),(1,.sl 1 l.length (l.map (D.int .i32))),(20,.i64 (wrapQ .i64 (((j : Nat) : Int) - 1)))] ?_
   refine OD.is 20 rfl (wr64 (by omega) (by omega)) ?_
   refine OD.rE 1 [(0,.loc 0 0),(1,.sl 1 l.length (l.map (D.int .i32))),(9,.i64 (((j : Nat) : Int) - 1))] ?_
   refine OD.nil ?_
   exact ⟨_, by omega, j, (by kernel_rfl), by omega, by rw [hr, hj, lastF_go h2], rfl⟩
 ·
  refine CD.exit ?_
  refine CD.seq (CD.region ?_)
  refine OD.rE 3 [(6,.i64 0),(7,.i64 0),(8,.bool false)] ?_
  refine OD.nil (CD.ret ?_)
  (try dsimp only); first | refine resP_r ?_ | refine resP_n ?_
  exact rO 1 (.tup [.i64 0, .i64 0, .bool false]) [.box [.sl 9 n1 (((machine K14 (.mk k set no kids mn mx)).1).flatMap encSta), .i64 (((machine K14 (.mk k set no kids mn mx)).2 : Nat) : Int), .i64 ((wp K14 20001 (.mk k set no kids mn mx) : Nat) : Int)]] (⟨(congrArg hit3D (show lastR l (.mk k set no kids mn mx) a = (0, 0, false) from by rw [hlr, hr, show i = 0 by omega, lastF])).symm, rfl⟩)
end
end Go.Proofs.YtfcadnhoejlgoaaGreatDoor

/-
  What is proved here: where a byte is in the text of the signs of a meaning; the last byte of a sign's bytes (part PEa). what functions of the pattern's package come to (walks that a program of mine has printed). what functions of the pattern's package come to (walks that a program of mine has printed). the reader's functions, so deep as may be. No conditions but those that the theorems state.
-/
import Derived.Test.YtfcadnhoejlgoaaGreatDoorPB
import Derived.Test.YtfcadnhoejlgoaaGreatDoorRM
import Derived.Test.YtfcadnhoejlgoaaGreatDoorRI
set_option linter.unusedVariables false
set_option linter.unusedSimpArgs false
set_option maxRecDepth 100000
namespace Go.Proofs.YtfcadnhoejlgoaaGreatDoor
open Go.Vai Go.Nfa
noncomputable section
abbrev special : ByteArray := ⟨#[124, 42, 43, 63, 123, 125, 40, 41, 91, 93, 46, 94, 36, 92]⟩
def zOf (s : ByteArray) (c : Int) : Int := match prun Tryz.prog (callFunc 240 #[.string s, .int .u8 c]) with
 | some (.value (.int .i64 z)) => z
 | _ => 0
def okOf (s : ByteArray) (c : Int) : Bool := match prun Tryz.prog (callFunc 240 #[.string s, .int .u8 c]) with
 | some (.value (.int .i64 _)) => true
 | _ => false
theorem okOf_ok {s : ByteArray} {c : Int} (h : okOf s c = true) : prun P (callFunc 240 #[.string s, .int .u8 c]) = some (.value (.int .i64 (zOf s c))) := by
 unfold okOf at h
 unfold zOf
 split at h
 · rename_i z e; rw [show P = Tryz.prog from rfl, e]
 · cases h
theorem tab1 : ((List.range 128).all fun c => okOf special (Int.ofNat c) && (match decide (0 ≤ zOf special (Int.ofNat c)), specB (Int.ofNat c) with | true, true => true | false, false => true | _, _ => false)) = true := by kernel_rfl
theorem tab2 : ((List.range 3).all fun i => (List.range 128).all fun c => okOf (special.extract (i + 1 + 1) special.size) (Int.ofNat (c + 128)) && decide (zOf (special.extract (i + 1 + 1) special.size) (Int.ofNat (c + 128)) < 0)) = true := by kernel_rfl
theorem low_ok {r : Int} (h0 : 0 ≤ r) (h1 : r < 128) : okOf special r = true ∧ decide (0 ≤ zOf special r) = specB r := by
 obtain ⟨n, rfl⟩ : ∃ n : Nat, r = Int.ofNat n := ⟨r.toNat, by simp only [Int.ofNat_eq_natCast]; omega⟩
 have h := List.all_eq_true.1 tab1 n (List.mem_range.2 (by simp only [Int.ofNat_eq_natCast] at h1; omega))
 rw [Bool.and_eq_true] at h
 refine ⟨h.1, ?_⟩
 have h2 := h.2
 cases ha : decide (0 ≤ zOf special (Int.ofNat n)) <;> cases hb : specB (Int.ofNat n) <;> rw [ha, hb] at h2 <;> first | rfl | cases h2
theorem high_ok {m c : Nat} (h0 : 1 ≤ m) (h1 : m ≤ 3) (h2 : 128 ≤ c) (h3 : c < 256) : okOf (special.extract (m + 1) special.size) (c : Int) = true ∧ zOf (special.extract (m + 1) special.size) (c : Int) < 0 := by
 have h := List.all_eq_true.1 (List.all_eq_true.1 tab2 (m - 1) (List.mem_range.2 (by omega))) (c - 128) (List.mem_range.2 (by omega))
 rw [Bool.and_eq_true, decide_eq_true_eq] at h
 rw [show m - 1 + 1 = m by omega, show c - 128 + 128 = c by omega] at h
 exact h
theorem enc_last {r : Int} (h : signB r = true) (h1 : 128 ≤ r) : ∃ m, (Utf8.encode r).size = m + 1 ∧ 1 ≤ m ∧ m ≤ 3 ∧ 128 ≤ sB (Utf8.encode r) m := by
 have hv : Utf8.valid r = true := by
  simp only [signB, validB, Bool.and_eq_true, Bool.or_eq_true, decide_eq_true_eq] at h
  simp only [Utf8.valid, Bool.and_eq_true, Bool.or_eq_true, decide_eq_true_eq]
  omega
 have hr : r ≤ 1114111 := by
  simp only [signB, validB, Bool.and_eq_true, Bool.or_eq_true, decide_eq_true_eq] at h; omega
 have lastb : ∀ n : Nat, 128 ≤ (UInt8.ofNat (0x80 + n % 64)).toNat := by
  intro n
  rw [UInt8.toNat_ofNat']; omega
 unfold Utf8.encode
 simp only [hv, if_true]
 rw [if_neg (by omega)]
 split
 · exact ⟨1, rfl, by decide, by decide, lastb _⟩
 ·
  split
  · exact ⟨2, rfl, by decide, by decide, lastb _⟩
  · exact ⟨3, rfl, by decide, by decide, lastb _⟩
def ixR (r : Int) : Int := if r < 128 then zOf special r else -1
theorem ixR_spec {r : Int} (h : signB r = true) : decide (0 ≤ ixR r) = specB r := by
 have h0 : 0 ≤ r := by simp only [signB, validB, Bool.and_eq_true, Bool.or_eq_true, decide_eq_true_eq] at h; omega
 unfold ixR
 split
 · rename_i h1; exact (low_ok h0 h1).2
 ·
  rename_i h1
  rw [decide_eq_false (by decide)]
  symm
  simp only [specB, List.mem_cons, List.not_mem_nil, or_false, decide_eq_false_iff_not]
  omega
theorem byteAt (m : Nat) (h0 : 1 ≤ m) (h1 : m ≤ 3) : sB special m < 128 := by
 rcases (by omega : m = 1 ∨ m = 2 ∨ m = 3) with rfl | rfl | rfl <;> decide
theorem sign_0 {r : Int} (h : signB r = true) : 0 ≤ r := by
 simp only [signB, validB, Bool.and_eq_true, Bool.or_eq_true, decide_eq_true_eq] at h; omega
theorem sign_65 {r : Int} (h : signB r = true) : ¬ r = 65533 := by
 simp only [signB, Bool.and_eq_true, decide_eq_true_eq] at h; exact h.2
end
end Go.Proofs.YtfcadnhoejlgoaaGreatDoor
set_option maxRecDepth 100000
set_option maxHeartbeats 4000000
namespace Go.Proofs.YtfcadnhoejlgoaaGreatDoor
open Go.Vai Go.Nfa
noncomputable section
theorem alt_ok (N : Nat) (hN0 : N ≤ 1000000) (row : Rdr) (hP : ∀ s b, okS s → s.length ≤ N → FnD P ov 95 [.loc 0 0] [pbox s b] (postN (row s b))) (hp : Shr row) (s : List Int) (b : Bool) (hs : okS s) (hN : s.length ≤ N) : FnD P ov 54 [.loc 0 0] [pbox s b] (postN (altM row s b)) := by
 refine FnD.intro (by kernel_rfl) (fn := Tryz.f54) (by kernel_rfl) rfl (by kernel_rfl) fun M a0 g0 hg0 => ?_
 refine CD.seq (CD.region ?_)
 refine OD.rL 1 [(0,.loc 0 0),(2,.loc 1 0)] [pbox s b, .box [.i64 0, .lit (.slice none 0 0), .bool false, .lit (.slice none 0 0), .i64 0, .i64 0]] ?_
 refine OD.nil (CD.seq (CD.region ?_))
 refine OD.rE 1 [(0,.loc 0 0),(2,.loc 1 0),(4,.loc 0 0)] ?_
 refine OD.cO [0] [.loc 0 0] (hP s b hs (by omega)) (fun r L1 hr => ?_)
 obtain ⟨rfl, rfl⟩ := hr
 refine OD.rE 0 [(0,.loc 0 0),(2,.loc 1 0),(5,.agg (celN ((row s b).1)))] ?_
 refine OD.bslR (e := 6) (cs := celN ((row s b).1)) rfl (by kernel_rfl) ?_
 refine OD.rowIs 2 rfl (flatN ((row s b).1)) ?_
 refine OD.rE 1 [(0,.loc 0 0),(2,.loc 1 0),(3,.row 2 0 1 1)] ?_
 refine OD.nil (CD.seq (CD.block ?_))
 refine CD.weak [0, 2, 3] 3 (E' := [(0, .loc 0 0), (2, .loc 1 0), (3, .row 2 0 1 1)]) (by kernel_rfl) (by simp [hg0]) (by kernel_rfl) ?_
 refine CD.loop (fun m σ => ∃ (s1 : List Int) (b1 : Bool) (ks : List Nd) (n : Nat) (f : Nat), σ = ⟨[(0, .loc 0 0), (2, .loc 1 0), (3, .row 2 0 n n)], [pbox s1 b1, .box [.i64 0, .lit (.slice none 0 0), .bool false, .lit (.slice none 0 0), .i64 0, .i64 0], .row 6 n (ks.flatMap encN)]⟩ ∧ (altL row s.length [(row s b).1] (row s b).2.1 (row s b).2.2 = altL row f ks s1 b1) ∧ (b1 = false → s1.length ≤ f) ∧ (okS s1) ∧ (ks.length = n) ∧ (n + s1.length ≤ s.length + 1) ∧ m = f + 1) (fun m σ hI => ?_) _ ⟨(row s b).2.1, (row s b).2.2, [(row s b).1], 1, s.length, (by kernel_rfl), rfl, fun _ => (hp s b).length_le, hs.sfx (hp s b), rfl, by have := (hp s b).length_le; omega, rfl⟩
 obtain ⟨s1, b1, ks, n, f, e, hr, hf, hs1, hn, hl, hm⟩ := hI
 subst e hm
 refine CD.seq (CD.seq (CD.region ?_))
 refine OD.rE 6 [(0,.loc 0 0),(2,.loc 1 0),(3,.row 2 0 n n),(12,.bool (!b1))] ?_
 refine OD.ifB 12 rfl (fun h1 => ?_) (fun h1 => ?_)
 ·
  have h1 := ndt' h1
  refine OD.rE 1 [(0,.loc 0 0),(2,.loc 1 0),(3,.row 2 0 n n),(12,.bool true),(13,.loc 0 0)] ?_
  refine OD.guard rfl rfl ?_
  refine OD.cO [0] [.loc 0 0, .int .i32 124] (is_ok s1 b1 124 (by decide)) (fun r L1 hr => ?_)
  rcases hr with ⟨hi2, rfl, rfl⟩ | ⟨hi2, rfl, rfl⟩
  ·
   refine OD.rE 1 [(0,.loc 0 0),(2,.loc 1 0),(3,.row 2 0 n n),(15,.bool true)] ?_
   refine OD.nil ?_
   refine CD.condT rfl ?_
   refine CD.skip (CD.block (CD.region ?_))
   refine OD.rE 2 [(0,.loc 0 0),(2,.loc 1 0),(16,.row 2 0 n n),(17,.loc 0 0)] ?_
   refine OD.cO [0] [.loc 0 0] (hP s1.tail b1 hs1.tl (by have := nx_pos (s := s1) (by omega); omega)) (fun r L1 hr => ?_)
   obtain ⟨rfl, rfl⟩ := hr
   refine OD.rE 0 [(0,.loc 0 0),(2,.loc 1 0),(16,.row 2 0 n n),(18,.agg (celN ((row s1.tail b1).1)))] ?_
   refine OD.bsl (e := 6) (cs := celN ((row s1.tail b1).1)) rfl (by kernel_rfl) ?_
   refine OD.rE 0 [(0,.loc 0 0),(2,.loc 1 0),(16,.row 2 0 n n),(19,.sl 6 1 (celN ((row s1.tail b1).1)))] ?_
   refine OD.appE (enc := encN) (xs := ks) (vs := [((row s1.tail b1).1)]) rfl (by kernel_rfl) rfl rfl rfl (flatN ((row s1.tail b1).1)) encN_len (by first | omega | (simp <;> omega)) (by decide) (by omega) (by omega) ?_
   refine OD.rE 1 [(0,.loc 0 0),(2,.loc 1 0),(3,.row 2 0 (n + 1) (n + 1))] ?_
   refine OD.nil ?_
   have hlt := (hp s1.tail b1).length_le
   have hle := nx_pos (s := s1) (by omega)
   have hff := hf h1
   exact ⟨_, by omega, ((row s1.tail b1).2.1), (row s1.tail b1).2.2, (ks ++ [((row s1.tail b1).1)]), n + 1, f - 1, (by kernel_rfl), hr.trans (altL_go h1 hi2 hf), fun e => by omega, hs1.tl.sfx (hp s1.tail b1), by rw [List.length_append, hn]; rfl, by omega, rfl⟩
  ·
   refine OD.rE 1 [(0,.loc 0 0),(2,.loc 1 0),(3,.row 2 0 n n),(15,.bool false)] ?_
   refine OD.nil ?_
   refine CD.condF rfl ?_
   refine CD.exit ?_
   refine CD.seq (CD.region ?_)
   refine OD.freeze 3 rfl rfl (Nat.le_refl _) ?_
   refine OD.rE 1 [(2,.loc 1 0),(21,.sl 6 n (ks.flatMap encN))] ?_
   refine OD.cE (of_ok 4 ks n (by assumption)) ?_
   refine OD.rL 1 [(2,.loc 1 0)] [pbox s1 b1, .box (celN (ofN 4 ks)), .dead] ?_
   refine OD.nil (CD.ret ?_)
   (try dsimp only); first | refine resP_r ?_ | refine resP_n ?_
   exact rO 1 (.agg (celN (ofN 4 ks))) [pbox s1 b1] (alt_done hr (by simp [h1, hi2]) hn)
 ·
  have h1 := ndf' h1
  refine OD.rE 3 [(0,.loc 0 0),(2,.loc 1 0),(3,.row 2 0 n n),(15,.bool false)] ?_
  refine OD.nil ?_
  refine CD.condF rfl ?_
  refine CD.exit ?_
  refine CD.seq (CD.region ?_)
  refine OD.freeze 3 rfl rfl (Nat.le_refl _) ?_
  refine OD.rE 1 [(2,.loc 1 0),(21,.sl 6 n (ks.flatMap encN))] ?_
  refine OD.cE (of_ok 4 ks n (by assumption)) ?_
  refine OD.rL 1 [(2,.loc 1 0)] [pbox s1 b1, .box (celN (ofN 4 ks)), .dead] ?_
  refine OD.nil (CD.ret ?_)
  (try dsimp only); first | refine resP_r ?_ | refine resP_n ?_
  exact rO 1 (.agg (celN (ofN 4 ks))) [pbox s1 b1] (alt_done hr (by simp [h1]) hn)
theorem piece_ok (N : Nat) (hN0 : N ≤ 1000000) (atom : Rdr) (hP : ∀ s b, okS s → s.length ≤ N → FnD P ov 178 [.loc 0 0] [pbox s b] (postN (atom s b))) (s : List Int) (b : Bool) (hs : okS s) (hN : s.length ≤ N) : FnD P ov 139 [.loc 0 0] [pbox s b] (postN (pieceM atom s b)) := by
 refine FnD.intro (by kernel_rfl) (fn := Tryz.f139) (by kernel_rfl) rfl (by kernel_rfl) fun M a0 g0 hg0 => ?_
 refine CD.seq (CD.region ?_)
 refine OD.rL 1 [(0,.loc 0 0),(2,.loc 1 0)] [pbox s b, .box [.i64 0, .lit (.slice none 0 0), .bool false, .lit (.slice none 0 0), .i64 0, .i64 0]] ?_
 refine OD.nil (CD.seq (CD.region ?_))
 refine OD.rE 1 [(0,.loc 0 0),(2,.loc 1 0),(8,.loc 0 0)] ?_
 refine OD.cO [0] [.loc 0 0] (next_ok s b) (fun r L1 hr => ?_)
 obtain ⟨rfl, rfl⟩ := hr
 refine OD.rE 1 [(0,.loc 0 0),(2,.loc 1 0),(3,.int .i32 (nx s))] ?_
 refine OD.nil (CD.seq (CD.region ?_))
 refine OD.rE 1 [(0,.loc 0 0),(2,.loc 1 0),(3,.int .i32 (nx s)),(10,.loc 0 0)] ?_
 refine OD.cO [0] [.loc 0 0] (hP s b hs (by omega)) (fun r L1 hr => ?_)
 obtain ⟨rfl, rfl⟩ := hr
 refine OD.rL 2 [(0,.loc 0 0),(2,.loc 1 0),(3,.int .i32 (nx s)),(4,.loc 2 0)] [pbox ((atom s b).2.1) (atom s b).2.2, .box [.i64 0, .lit (.slice none 0 0), .bool false, .lit (.slice none 0 0), .i64 0, .i64 0], .box (celN ((atom s b).1))] ?_
 refine OD.nil (CD.seq (CD.region ?_))
 refine OD.rE 1 [(0,.loc 0 0),(2,.loc 1 0),(3,.int .i32 (nx s)),(4,.loc 2 0),(13,.loc 0 0)] ?_
 refine OD.cO [0] [.loc 0 0] (repeat_ok ((atom s b).2.1) (atom s b).2.2) (fun r L1 hr => ?_)
 obtain ⟨rfl, rfl⟩ := hr
 refine OD.rE 7 [(0,.loc 0 0),(2,.loc 1 0),(3,.int .i32 (nx s)),(4,.loc 2 0),(5,.i64 ((repM ((atom s b).2.1) (atom s b).2.2).1.1)),(6,.i64 ((repM ((atom s b).2.1) (atom s b).2.2).1.2.1)),(7,.bool (repM ((atom s b).2.1) (atom s b).2.2).1.2.2)] ?_
 refine OD.nil (CD.seq (CD.seq (CD.region ?_)))
 refine OD.rE 2 [(0,.loc 0 0),(2,.loc 1 0),(3,.int .i32 (nx s)),(4,.loc 2 0),(5,.i64 ((repM ((atom s b).2.1) (atom s b).2.2).1.1)),(6,.i64 ((repM ((atom s b).2.1) (atom s b).2.2).1.2.1)),(19,.bool (!(repM ((atom s b).2.1) (atom s b).2.2).1.2.2))] ?_
 refine OD.nil ?_
 refine CD.condB rfl (fun h1 => ?_) (fun h1 => ?_)
 ·
  have h1 := ndt' h1
  refine CD.seq (CD.region ?_)
  refine OD.rL 2 [(2,.loc 1 0)] [pbox ((repM ((atom s b).2.1) (atom s b).2.2).2.1) (repM ((atom s b).2.1) (atom s b).2.2).2.2, .box (celN ((atom s b).1)), .box (celN ((atom s b).1))] ?_
  refine OD.nil (CD.ret ?_)
  (try dsimp only); first | refine resP_r ?_ | refine resP_n ?_
  exact rO 1 (.agg (celN ((atom s b).1))) [pbox ((repM ((atom s b).2.1) (atom s b).2.2).2.1) (repM ((atom s b).2.1) (atom s b).2.2).2.2] (piece_no h1)
 ·
  have h1 := ndf' h1
  refine CD.skip (CD.seq (CD.seq (CD.region ?_)))
  refine OD.rE 3 [(0,.loc 0 0),(2,.loc 1 0),(3,.int .i32 (nx s)),(4,.loc 2 0),(5,.i64 ((repM ((atom s b).2.1) (atom s b).2.2).1.1)),(6,.i64 ((repM ((atom s b).2.1) (atom s b).2.2).1.2.1)),(23,.bool (decide (((nx s) : Int) = 94)))] ?_
  refine OD.ifP 23 rfl (fun h2 => ?_) (fun h2 => ?_)
  ·
   refine OD.rE 3 [(0,.loc 0 0),(2,.loc 1 0),(4,.loc 2 0),(5,.i64 ((repM ((atom s b).2.1) (atom s b).2.2).1.1)),(6,.i64 ((repM ((atom s b).2.1) (atom s b).2.2).1.2.1)),(26,.bool true)] ?_
   refine OD.nil ?_
   refine CD.condT rfl ?_
   refine CD.region ?_
   refine OD.rL 4 [(2,.loc 1 0),(4,.loc 2 0),(5,.i64 ((repM ((atom s b).2.1) (atom s b).2.2).1.1)),(6,.i64 ((repM ((atom s b).2.1) (atom s b).2.2).1.2.1))] [pbox ((repM ((atom s b).2.1) (atom s b).2.2).2.1) true, .box [.i64 0, .lit (.slice none 0 0), .bool false, .lit (.slice none 0 0), .i64 0, .i64 0], .box (celN ((atom s b).1))] ?_
   refine OD.nil (CD.seq (CD.region ?_))
   refine OD.rE 1 [(2,.loc 1 0),(5,.i64 ((repM ((atom s b).2.1) (atom s b).2.2).1.1)),(6,.i64 ((repM ((atom s b).2.1) (atom s b).2.2).1.2.1)),(30,.agg (celN ((atom s b).1)))] ?_
   refine OD.bsl (e := 6) (cs := celN ((atom s b).1)) rfl (by kernel_rfl) ?_
   refine OD.rE 3 [(2,.loc 1 0),(34,.agg [.i64 5, .lit (.slice none 0 0), .bool false, .sl 6 1 (celN ((atom s b).1)), .i64 ((repM ((atom s b).2.1) (atom s b).2.2).1.1), .i64 ((repM ((atom s b).2.1) (atom s b).2.2).1.2.1)])] ?_
   refine OD.reNil 34 [0, 2, 0, 0, 0, 0] (ds' := [.i64 5, .sl 2 0 ([]), .bool false, .sl 6 1 (celN ((atom s b).1)), .i64 ((repM ((atom s b).2.1) (atom s b).2.2).1.1), .i64 ((repM ((atom s b).2.1) (atom s b).2.2).1.2.1)]) rfl (by kernel_rfl) ?_
   refine OD.rL 1 [(2,.loc 1 0)] [pbox ((repM ((atom s b).2.1) (atom s b).2.2).2.1) true, .box [.i64 5, .sl 2 0 ([]), .bool false, .sl 6 1 (celN ((atom s b).1)), .i64 ((repM ((atom s b).2.1) (atom s b).2.2).1.1), .i64 ((repM ((atom s b).2.1) (atom s b).2.2).1.2.1)], .box (celN ((atom s b).1))] ?_
   refine OD.nil (CD.ret ?_)
   (try dsimp only); first | refine resP_r ?_ | refine resP_n ?_
   exact rO 1 (.agg [.i64 5, .sl 2 0 ([]), .bool false, .sl 6 1 (celN ((atom s b).1)), .i64 ((repM ((atom s b).2.1) (atom s b).2.2).1.1), .i64 ((repM ((atom s b).2.1) (atom s b).2.2).1.2.1)]) [pbox ((repM ((atom s b).2.1) (atom s b).2.2).2.1) true] (piece_yes (by first | exact h1 | simpa using h1) (by first | (rw [decide_eq_true (by omega), Bool.or_true]) | (rw [decide_eq_false (by omega), Bool.or_false])))
  ·
   refine OD.rE 3 [(0,.loc 0 0),(2,.loc 1 0),(4,.loc 2 0),(5,.i64 ((repM ((atom s b).2.1) (atom s b).2.2).1.1)),(6,.i64 ((repM ((atom s b).2.1) (atom s b).2.2).1.2.1)),(26,.bool (decide (((nx s) : Int) = 36)))] ?_
   refine OD.nil ?_
   refine CD.condP rfl (fun h3 => ?_) (fun h3 => ?_)
   ·
    refine CD.region ?_
    refine OD.rL 4 [(2,.loc 1 0),(4,.loc 2 0),(5,.i64 ((repM ((atom s b).2.1) (atom s b).2.2).1.1)),(6,.i64 ((repM ((atom s b).2.1) (atom s b).2.2).1.2.1))] [pbox ((repM ((atom s b).2.1) (atom s b).2.2).2.1) true, .box [.i64 0, .lit (.slice none 0 0), .bool false, .lit (.slice none 0 0), .i64 0, .i64 0], .box (celN ((atom s b).1))] ?_
    refine OD.nil (CD.seq (CD.region ?_))
    refine OD.rE 1 [(2,.loc 1 0),(5,.i64 ((repM ((atom s b).2.1) (atom s b).2.2).1.1)),(6,.i64 ((repM ((atom s b).2.1) (atom s b).2.2).1.2.1)),(30,.agg (celN ((atom s b).1)))] ?_
    refine OD.bsl (e := 6) (cs := celN ((atom s b).1)) rfl (by kernel_rfl) ?_
    refine OD.rE 3 [(2,.loc 1 0),(34,.agg [.i64 5, .lit (.slice none 0 0), .bool false, .sl 6 1 (celN ((atom s b).1)), .i64 ((repM ((atom s b).2.1) (atom s b).2.2).1.1), .i64 ((repM ((atom s b).2.1) (atom s b).2.2).1.2.1)])] ?_
    refine OD.reNil 34 [0, 2, 0, 0, 0, 0] (ds' := [.i64 5, .sl 2 0 ([]), .bool false, .sl 6 1 (celN ((atom s b).1)), .i64 ((repM ((atom s b).2.1) (atom s b).2.2).1.1), .i64 ((repM ((atom s b).2.1) (atom s b).2.2).1.2.1)]) rfl (by kernel_rfl) ?_
    refine OD.rL 1 [(2,.loc 1 0)] [pbox ((repM ((atom s b).2.1) (atom s b).2.2).2.1) true, .box [.i64 5, .sl 2 0 ([]), .bool false, .sl 6 1 (celN ((atom s b).1)), .i64 ((repM ((atom s b).2.1) (atom s b).2.2).1.1), .i64 ((repM ((atom s b).2.1) (atom s b).2.2).1.2.1)], .box (celN ((atom s b).1))] ?_
    refine OD.nil (CD.ret ?_)
    (try dsimp only); first | refine resP_r ?_ | refine resP_n ?_
    exact rO 1 (.agg [.i64 5, .sl 2 0 ([]), .bool false, .sl 6 1 (celN ((atom s b).1)), .i64 ((repM ((atom s b).2.1) (atom s b).2.2).1.1), .i64 ((repM ((atom s b).2.1) (atom s b).2.2).1.2.1)]) [pbox ((repM ((atom s b).2.1) (atom s b).2.2).2.1) true] (piece_yes (by first | exact h1 | simpa using h1) (by first | (rw [decide_eq_true (by omega), Bool.or_true]) | (rw [decide_eq_false (by omega), Bool.or_false])))
   ·
    refine CD.skip (CD.seq (CD.region ?_))
    refine OD.rE 1 [(2,.loc 1 0),(5,.i64 ((repM ((atom s b).2.1) (atom s b).2.2).1.1)),(6,.i64 ((repM ((atom s b).2.1) (atom s b).2.2).1.2.1)),(30,.agg (celN ((atom s b).1)))] ?_
    refine OD.bsl (e := 6) (cs := celN ((atom s b).1)) rfl (by kernel_rfl) ?_
    refine OD.rE 3 [(2,.loc 1 0),(34,.agg [.i64 5, .lit (.slice none 0 0), .bool false, .sl 6 1 (celN ((atom s b).1)), .i64 ((repM ((atom s b).2.1) (atom s b).2.2).1.1), .i64 ((repM ((atom s b).2.1) (atom s b).2.2).1.2.1)])] ?_
    refine OD.reNil 34 [0, 2, 0, 0, 0, 0] (ds' := [.i64 5, .sl 2 0 ([]), .bool false, .sl 6 1 (celN ((atom s b).1)), .i64 ((repM ((atom s b).2.1) (atom s b).2.2).1.1), .i64 ((repM ((atom s b).2.1) (atom s b).2.2).1.2.1)]) rfl (by kernel_rfl) ?_
    refine OD.rL 1 [(2,.loc 1 0)] [pbox ((repM ((atom s b).2.1) (atom s b).2.2).2.1) (repM ((atom s b).2.1) (atom s b).2.2).2.2, .box [.i64 5, .sl 2 0 ([]), .bool false, .sl 6 1 (celN ((atom s b).1)), .i64 ((repM ((atom s b).2.1) (atom s b).2.2).1.1), .i64 ((repM ((atom s b).2.1) (atom s b).2.2).1.2.1)], .box (celN ((atom s b).1))] ?_
    refine OD.nil (CD.ret ?_)
    (try dsimp only); first | refine resP_r ?_ | refine resP_n ?_
    exact rO 1 (.agg [.i64 5, .sl 2 0 ([]), .bool false, .sl 6 1 (celN ((atom s b).1)), .i64 ((repM ((atom s b).2.1) (atom s b).2.2).1.1), .i64 ((repM ((atom s b).2.1) (atom s b).2.2).1.2.1)]) [pbox ((repM ((atom s b).2.1) (atom s b).2.2).2.1) (repM ((atom s b).2.1) (atom s b).2.2).2.2] (piece_yes (by first | exact h1 | simpa using h1) (by first | (rw [decide_eq_true (by omega), Bool.or_true]) | (rw [decide_eq_false (by omega), Bool.or_false])))
theorem set_ok (s : List Int) (b : Bool) (hN : s.length ≤ 1000000) : FnD P ov 203 [.loc 0 0] [pbox s b] (postN (setM s b)) := by
 refine FnD.intro (by kernel_rfl) (fn := Tryz.f203) (by kernel_rfl) rfl (by kernel_rfl) fun M a0 g0 hg0 => ?_
 refine CD.seq (CD.region ?_)
 refine OD.rL 1 [(0,.loc 0 0),(2,.loc 1 0)] [pbox s b, .box [.i64 0, .lit (.slice none 0 0), .bool false, .lit (.slice none 0 0), .i64 0, .i64 0]] ?_
 refine OD.nil (CD.seq (CD.region ?_))
 refine OD.rE 1 [(0,.loc 0 0),(2,.loc 1 0),(5,.loc 0 0)] ?_
 refine OD.cO [0] [.loc 0 0, .int .i32 94] (is_ok2 s b 94 (by decide)) (fun r L1 hr => ?_)
 obtain ⟨rfl, rfl⟩ := hr
 refine OD.rE 1 [(0,.loc 0 0),(2,.loc 1 0),(7,.agg [.i64 2, .lit (.slice none 0 0), .bool (decide (nx s = 94)), .lit (.slice none 0 0), .i64 0, .i64 0])] ?_
 refine OD.reNil 7 [0, 0, 0, 6, 0, 0] (ds' := [.i64 2, .lit (.slice none 0 0), .bool (decide (nx s = 94)), .sl 6 0 ([]), .i64 0, .i64 0]) rfl (by kernel_rfl) ?_
 refine OD.rL 2 [(0,.loc 0 0),(2,.loc 1 0),(3,.loc 2 0)] [pbox (isR 94 s) b, .box [.i64 0, .lit (.slice none 0 0), .bool false, .lit (.slice none 0 0), .i64 0, .i64 0], .box [.i64 2, .lit (.slice none 0 0), .bool (decide (nx s = 94)), .sl 6 0 ([]), .i64 0, .i64 0]] ?_
 refine OD.nilRowB 2 1 2 rfl rfl ?_
 refine OD.rE 0 [(0,.loc 0 0),(2,.loc 1 0),(3,.loc 2 0)] ?_
 refine OD.nil (CD.seq (CD.block ?_))
 refine CD.weak [0, 2, 3] 4 (E' := [(0, .loc 0 0), (2, .loc 1 0), (3, .loc 2 0)]) (by kernel_rfl) (by simp [hg0]) (by kernel_rfl) ?_
 refine CD.loop (fun m σ => ∃ (s1 : List Int) (b1 : Bool) (l : List (Int × Int)) (n : Nat) (f : Nat), σ = ⟨[(0, .loc 0 0), (2, .loc 1 0), (3, .loc 2 0)], [pbox s1 b1, .box [.i64 0, .lit (.slice none 0 0), .bool false, .lit (.slice none 0 0), .i64 0, .i64 0], .box [.i64 2, .row 3 0 n n, .bool (decide (nx s = 94)), .sl 6 0 ([]), .i64 0, .i64 0], .row 2 n (l.flatMap encR)]⟩ ∧ (setL ((isR 94 s).length + 1) [] (isR 94 s) b = setL f l s1 b1) ∧ (b1 = false → s1.length < f) ∧ (l.length = n) ∧ (n + f ≤ s.length + 1) ∧ m = f + 1) (fun m σ hI => ?_) _ ⟨isR 94 s, b, ([] : List (Int × Int)), 0, (isR 94 s).length + 1, (by kernel_rfl), rfl, fun _ => Nat.lt_succ_self _, rfl, by have := (is_le 94 s).length_le; omega, rfl⟩
 obtain ⟨s1, b1, l, n, f, e, hr, hf, hn, hl, hm⟩ := hI
 subst e hm
 refine CD.seq ?_
 refine CD.seqM (fun σ => σ = ⟨[(0, .loc 0 0), (2, .loc 1 0), (3, .loc 2 0), (17, .bool (decide (b1 = false ∧ ¬ nx s1 = 93)))], [pbox s1 b1, .box [.i64 0, .lit (.slice none 0 0), .bool false, .lit (.slice none 0 0), .i64 0, .i64 0], .box [.i64 2, .row 3 0 n n, .bool (decide (nx s = 94)), .sl 6 0 ([]), .i64 0, .i64 0], .row 2 n (l.flatMap encR)]⟩) ?_ (fun σ e => ?_)
 ·
  refine CD.region ?_
  refine OD.rE 6 [(0,.loc 0 0),(2,.loc 1 0),(3,.loc 2 0),(13,.bool (!b1))] ?_
  refine OD.ifB 13 rfl (fun h1 => ?_) (fun h1 => ?_)
  ·
   have h1 := ndt' h1
   refine OD.rE 1 [(0,.loc 0 0),(2,.loc 1 0),(3,.loc 2 0),(13,.bool true),(14,.loc 0 0)] ?_
   refine OD.guard rfl rfl ?_
   refine OD.cO [0] [.loc 0 0] (next_ok s1 b1) (fun r L1 hr => ?_)
   obtain ⟨rfl, rfl⟩ := hr
   refine OD.rE 2 [(0,.loc 0 0),(2,.loc 1 0),(3,.loc 2 0),(17,.bool (decide (¬ ((nx s1) : Int) = 93)))] ?_
   refine OD.nil ?_
   have hcut : decide (b1 = false ∧ ¬ nx s1 = 93) = (decide (¬ ((nx s1) : Int) = 93)) := by simp [h1]
   rw [hcut] <;> rfl
  ·
   have h1 := ndf' h1
   refine OD.rE 4 [(0,.loc 0 0),(2,.loc 1 0),(3,.loc 2 0),(17,.bool false)] ?_
   refine OD.nil ?_
   have hcut : decide (b1 = false ∧ ¬ nx s1 = 93) = false := by simp [h1]
   rw [hcut] <;> rfl
 ·
  subst e
  refine CD.condP rfl (fun h2 => ?_) (fun h2 => ?_)
  ·
   refine CD.skip (CD.block (CD.seq (CD.region ?_)))
   refine OD.rE 1 [(0,.loc 0 0),(2,.loc 1 0),(3,.loc 2 0),(18,.loc 0 0)] ?_
   refine OD.cO [0] [.loc 0 0] (member_ok s1 b1) (fun r L1 hr => ?_)
   obtain ⟨rfl, rfl⟩ := hr
   refine OD.rL 3 [(0,.loc 0 0),(2,.loc 1 0),(3,.loc 2 0),(4,.loc 4 0)] [pbox ((memM s1 b1).2.1) (memM s1 b1).2.2, .box [.i64 0, .lit (.slice none 0 0), .bool false, .lit (.slice none 0 0), .i64 0, .i64 0], .box [.i64 2, .row 3 0 n n, .bool (decide (nx s = 94)), .sl 6 0 ([]), .i64 0, .i64 0], .row 2 n (l.flatMap encR), .box [.int .i32 ((memM s1 b1).1), .int .i32 0]] ?_
   refine OD.nil (CD.seq (CD.region ?_))
   refine OD.rL 4 [(0,.loc 0 0),(2,.loc 1 0),(3,.loc 2 0),(4,.loc 4 0)] [pbox ((memM s1 b1).2.1) (memM s1 b1).2.2, .box [.i64 0, .lit (.slice none 0 0), .bool false, .lit (.slice none 0 0), .i64 0, .i64 0], .box [.i64 2, .row 3 0 n n, .bool (decide (nx s = 94)), .sl 6 0 ([]), .i64 0, .i64 0], .row 2 n (l.flatMap encR), .box [.int .i32 ((memM s1 b1).1), .int .i32 ((memM s1 b1).1)]] ?_
   refine OD.nil ?_
   refine CD.seqM (fun σ => σ = ⟨[(0, .loc 0 0), (2, .loc 1 0), (3, .loc 2 0), (4, .loc 4 0)], [pbox ((hiM (memM s1 b1)).2.1) (hiM (memM s1 b1)).2.2, .box [.i64 0, .lit (.slice none 0 0), .bool false, .lit (.slice none 0 0), .i64 0, .i64 0], .box [.i64 2, .row 3 0 n n, .bool (decide (nx s = 94)), .sl 6 0 ([]), .i64 0, .i64 0], .row 2 n (l.flatMap encR), .box [.int .i32 ((memM s1 b1).1), .int .i32 ((hiM (memM s1 b1)).1)]]⟩) ?_ (fun σ e => ?_)
   ·
    refine CD.seqM (fun σ => σ = ⟨[(0, .loc 0 0), (2, .loc 1 0), (3, .loc 2 0), (4, .loc 4 0), (47, .bool (decide (2 ≤ (memM s1 b1).2.1.length ∧ (memM s1 b1).2.1.getD 0 0 = 45 ∧ ¬ (memM s1 b1).2.1.getD 1 0 = 93)))], [pbox ((memM s1 b1).2.1) (memM s1 b1).2.2, .box [.i64 0, .lit (.slice none 0 0), .bool false, .lit (.slice none 0 0), .i64 0, .i64 0], .box [.i64 2, .row 3 0 n n, .bool (decide (nx s = 94)), .sl 6 0 ([]), .i64 0, .i64 0], .row 2 n (l.flatMap encR), .box [.int .i32 ((memM s1 b1).1), .int .i32 ((memM s1 b1).1)]]⟩) ?_ (fun σ e => ?_)
    ·
     refine CD.region ?_
     refine OD.rE 7 [(0,.loc 0 0),(2,.loc 1 0),(3,.loc 2 0),(4,.loc 4 0),(30,.bool (decide ((2 : Int) ≤ ((((memM s1 b1).2.1).length : Nat) : Int))))] ?_
     refine OD.ifP 30 rfl (fun h3 => ?_) (fun h3 => ?_)
     ·
      refine OD.rE 4 [(0,.loc 0 0),(2,.loc 1 0),(3,.loc 2 0),(4,.loc 4 0),(30,.bool true),(34,.sl 1 (((memM s1 b1).2.1).length) (((memM s1 b1).2.1).map (D.int .i32)))] ?_
      refine OD.guard rfl rfl ?_
      refine OD.idxSV (i := 0) rfl rfl (by kernel_rfl) (by omega) (by omega) ?_
      refine OD.rE 0 [(0,.loc 0 0),(2,.loc 1 0),(3,.loc 2 0),(4,.loc 4 0),(30,.bool true),(35,.ep 1 (((memM s1 b1).2.1).length) (((memM s1 b1).2.1).map (D.int .i32)) 0)] ?_
      refine OD.guard rfl rfl ?_
      refine OD.ldSV 0 (f := (D.int .i32)) (xs := ((memM s1 b1).2.1)) rfl (by kernel_rfl) (by first | omega | (simp <;> omega)) ?_
      refine OD.rE 3 [(0,.loc 0 0),(2,.loc 1 0),(3,.loc 2 0),(4,.loc 4 0),(39,.bool (decide (((((memM s1 b1).2.1).getD 0 0) : Int) = 45)))] ?_
      refine OD.ifP 39 rfl (fun h4 => ?_) (fun h4 => ?_)
      ·
       refine OD.rE 4 [(0,.loc 0 0),(2,.loc 1 0),(3,.loc 2 0),(4,.loc 4 0),(39,.bool true),(43,.sl 1 (((memM s1 b1).2.1).length) (((memM s1 b1).2.1).map (D.int .i32)))] ?_
       refine OD.guard rfl rfl ?_
       refine OD.idxSV (i := 1) rfl rfl (by kernel_rfl) (by omega) (by omega) ?_
       refine OD.rE 0 [(0,.loc 0 0),(2,.loc 1 0),(3,.loc 2 0),(4,.loc 4 0),(39,.bool true),(44,.ep 1 (((memM s1 b1).2.1).length) (((memM s1 b1).2.1).map (D.int .i32)) 1)] ?_
       refine OD.guard rfl rfl ?_
       refine OD.ldSV 0 (f := (D.int .i32)) (xs := ((memM s1 b1).2.1)) rfl (by kernel_rfl) (by first | omega | (simp <;> omega)) ?_
       refine OD.rE 2 [(0,.loc 0 0),(2,.loc 1 0),(3,.loc 2 0),(4,.loc 4 0),(47,.bool (decide (¬ ((((memM s1 b1).2.1).getD 1 0) : Int) = 93)))] ?_
       refine OD.nil ?_
       have hcut : decide (2 ≤ (memM s1 b1).2.1.length ∧ (memM s1 b1).2.1.getD 0 0 = 45 ∧ ¬ (memM s1 b1).2.1.getD 1 0 = 93) = (decide (¬ ((((memM s1 b1).2.1).getD 1 0) : Int) = 93)) := decide_eq_decide.2 (by omega)
       rw [hcut] <;> rfl
      ·
       refine OD.rE 8 [(0,.loc 0 0),(2,.loc 1 0),(3,.loc 2 0),(4,.loc 4 0),(47,.bool false)] ?_
       refine OD.nil ?_
       have hcut : decide (2 ≤ (memM s1 b1).2.1.length ∧ (memM s1 b1).2.1.getD 0 0 = 45 ∧ ¬ (memM s1 b1).2.1.getD 1 0 = 93) = false := decide_eq_false (by omega)
       rw [hcut] <;> rfl
     ·
      refine OD.rE 17 [(0,.loc 0 0),(2,.loc 1 0),(3,.loc 2 0),(4,.loc 4 0),(47,.bool false)] ?_
      refine OD.nil ?_
      have hcut : decide (2 ≤ (memM s1 b1).2.1.length ∧ (memM s1 b1).2.1.getD 0 0 = 45 ∧ ¬ (memM s1 b1).2.1.getD 1 0 = 93) = false := decide_eq_false (by omega)
      rw [hcut] <;> rfl
    ·
     subst e
     refine CD.condP rfl (fun h5 => ?_) (fun h5 => ?_)
     ·
      refine CD.seq (CD.region ?_)
      refine OD.rE 1 [(0,.loc 0 0),(2,.loc 1 0),(3,.loc 2 0),(4,.loc 4 0),(48,.loc 0 0)] ?_
      refine OD.cO [0] [.loc 0 0] (take_ok ((memM s1 b1).2.1) (memM s1 b1).2.2) (fun r L1 hr => ?_)
      obtain ⟨rfl, rfl⟩ := hr
      refine OD.rE 0 [(0,.loc 0 0),(2,.loc 1 0),(3,.loc 2 0),(4,.loc 4 0)] ?_
      refine OD.nil (CD.region ?_)
      refine OD.rE 1 [(0,.loc 0 0),(2,.loc 1 0),(3,.loc 2 0),(4,.loc 4 0),(50,.loc 0 0)] ?_
      refine OD.cO [0] [.loc 0 0] (member_ok ((tkM ((memM s1 b1).2.1) (memM s1 b1).2.2).2.1) (tkM ((memM s1 b1).2.1) (memM s1 b1).2.2).2.2) (fun r L1 hr => ?_)
      obtain ⟨rfl, rfl⟩ := hr
      refine OD.rL 2 [(0,.loc 0 0),(2,.loc 1 0),(3,.loc 2 0),(4,.loc 4 0)] [pbox ((memM ((tkM ((memM s1 b1).2.1) (memM s1 b1).2.2).2.1) (tkM ((memM s1 b1).2.1) (memM s1 b1).2.2).2.2).2.1) (memM ((tkM ((memM s1 b1).2.1) (memM s1 b1).2.2).2.1) (tkM ((memM s1 b1).2.1) (memM s1 b1).2.2).2.2).2.2, .box [.i64 0, .lit (.slice none 0 0), .bool false, .lit (.slice none 0 0), .i64 0, .i64 0], .box [.i64 2, .row 3 0 n n, .bool (decide (nx s = 94)), .sl 6 0 ([]), .i64 0, .i64 0], .row 2 n (l.flatMap encR), .box [.int .i32 ((memM s1 b1).1), .int .i32 ((memM ((tkM ((memM s1 b1).2.1) (memM s1 b1).2.2).2.1) (tkM ((memM s1 b1).2.1) (memM s1 b1).2.2).2.2).1)]] ?_
      refine OD.nil ?_
      have hcut : (hiM (memM s1 b1)) = memM (tkM (memM s1 b1).2.1 (memM s1 b1).2.2).2.1 (tkM (memM s1 b1).2.1 (memM s1 b1).2.2).2.2 := if_pos h5
      rw [hcut] <;> rfl
     ·
      refine CD.weak [0, 2, 3, 4] 5 (E' := [(0, .loc 0 0), (2, .loc 1 0), (3, .loc 2 0), (4, .loc 4 0)]) (by kernel_rfl) (by simp [hg0]) (by kernel_rfl) ?_
      refine CD.skip ?_
      have hcut : (hiM (memM s1 b1)) = (memM s1 b1) := if_neg h5
      rw [hcut] <;> rfl
   ·
    subst e
    refine CD.seqM (fun σ => σ = ⟨[(0, .loc 0 0), (2, .loc 1 0), (3, .loc 2 0), (4, .loc 4 0)], [pbox ((hiM (memM s1 b1)).2.1) ((hiM (memM s1 b1)).2.2 || decide ((hiM (memM s1 b1)).1 < (memM s1 b1).1)), .box [.i64 0, .lit (.slice none 0 0), .bool false, .lit (.slice none 0 0), .i64 0, .i64 0], .box [.i64 2, .row 3 0 n n, .bool (decide (nx s = 94)), .sl 6 0 ([]), .i64 0, .i64 0], .row 2 n (l.flatMap encR), .box [.int .i32 ((memM s1 b1).1), .int .i32 ((hiM (memM s1 b1)).1)]]⟩) ?_ (fun σ e => ?_)
    ·
     refine CD.region ?_
     refine OD.rE 6 [(0,.loc 0 0),(2,.loc 1 0),(3,.loc 2 0),(4,.loc 4 0),(53,.loc 0 0),(58,.bool (hiM (memM s1 b1)).2.2)] ?_
     refine OD.ifB 58 rfl (fun h6 => ?_) (fun h6 => ?_)
     ·
      refine OD.rL 9 [(0,.loc 0 0),(2,.loc 1 0),(3,.loc 2 0),(4,.loc 4 0)] [pbox ((hiM (memM s1 b1)).2.1) true, .box [.i64 0, .lit (.slice none 0 0), .bool false, .lit (.slice none 0 0), .i64 0, .i64 0], .box [.i64 2, .row 3 0 n n, .bool (decide (nx s = 94)), .sl 6 0 ([]), .i64 0, .i64 0], .row 2 n (l.flatMap encR), .box [.int .i32 ((memM s1 b1).1), .int .i32 ((hiM (memM s1 b1)).1)]] ?_
      refine OD.nil ?_
      have hcut : ((hiM (memM s1 b1)).2.2 || decide ((hiM (memM s1 b1)).1 < (memM s1 b1).1)) = true := by simp [h6]
      rw [hcut] <;> rfl
     ·
      refine OD.rL 9 [(0,.loc 0 0),(2,.loc 1 0),(3,.loc 2 0),(4,.loc 4 0)] [pbox ((hiM (memM s1 b1)).2.1) (decide ((((hiM (memM s1 b1)).1) : Int) < ((memM s1 b1).1))), .box [.i64 0, .lit (.slice none 0 0), .bool false, .lit (.slice none 0 0), .i64 0, .i64 0], .box [.i64 2, .row 3 0 n n, .bool (decide (nx s = 94)), .sl 6 0 ([]), .i64 0, .i64 0], .row 2 n (l.flatMap encR), .box [.int .i32 ((memM s1 b1).1), .int .i32 ((hiM (memM s1 b1)).1)]] ?_
      refine OD.nil ?_
      have hcut : ((hiM (memM s1 b1)).2.2 || decide ((hiM (memM s1 b1)).1 < (memM s1 b1).1)) = (decide ((((hiM (memM s1 b1)).1) : Int) < ((memM s1 b1).1))) := by simp [h6]
      rw [hcut] <;> rfl
    ·
     subst e
     refine CD.region ?_
     refine OD.rE 3 [(0,.loc 0 0),(2,.loc 1 0),(3,.loc 2 0),(68,.row 3 0 n n),(69,.agg [.int .i32 ((memM s1 b1).1), .int .i32 ((hiM (memM s1 b1)).1)])] ?_
     refine OD.bsl (e := 2) (cs := [.int .i32 ((memM s1 b1).1), .int .i32 ((hiM (memM s1 b1)).1)]) rfl (by kernel_rfl) ?_
     refine OD.rE 0 [(0,.loc 0 0),(2,.loc 1 0),(3,.loc 2 0),(68,.row 3 0 n n),(70,.sl 2 1 [.int .i32 ((memM s1 b1).1), .int .i32 ((hiM (memM s1 b1)).1)])] ?_
     refine OD.appE (enc := encR) (xs := l) (vs := [((memM s1 b1).1, (hiM (memM s1 b1)).1)]) rfl (by kernel_rfl) rfl rfl rfl (by rfl) encR_len (by first | omega | (simp <;> omega)) (by decide) (by omega) (by omega) ?_
     refine OD.rL 2 [(0,.loc 0 0),(2,.loc 1 0),(3,.loc 2 0)] [pbox ((hiM (memM s1 b1)).2.1) ((hiM (memM s1 b1)).2.2 || decide ((hiM (memM s1 b1)).1 < (memM s1 b1).1)), .box [.i64 0, .lit (.slice none 0 0), .bool false, .lit (.slice none 0 0), .i64 0, .i64 0], .box [.i64 2, .row 3 0 (n + 1) (n + 1), .bool (decide (nx s = 94)), .sl 6 0 ([]), .i64 0, .i64 0], .row 2 (n + 1) ((l ++ [((memM s1 b1).1, (hiM (memM s1 b1)).1)]).flatMap encR), .box [.int .i32 ((memM s1 b1).1), .int .i32 ((hiM (memM s1 b1)).1)]] ?_
     refine OD.nilW [0, 2, 3] 4 (E' := [(0, .loc 0 0), (2, .loc 1 0), (3, .loc 2 0)]) (by kernel_rfl) (by simp [hg0]) (by kernel_rfl) ?_
     have hcnd := h2
     have hff := hf hcnd.1
     exact ⟨_, by omega, ((hiM (memM s1 b1)).2.1), ((hiM (memM s1 b1)).2.2 || decide ((hiM (memM s1 b1)).1 < (memM s1 b1).1)), (l ++ [((memM s1 b1).1, (hiM (memM s1 b1)).1)]), n + 1, f - 1, (by kernel_rfl), hr.trans (setL_go hcnd hf), set_dec hf hcnd.1, by rw [List.length_append, hn]; rfl, by omega, rfl⟩
  ·
   refine CD.exit ?_
   refine CD.seq (CD.region ?_)
   refine OD.freezeB 2 1 rfl rfl rfl (Nat.le_refl _) ?_
   refine OD.rE 6 [(0,.loc 0 0),(2,.loc 1 0),(3,.loc 2 0),(73,.loc 0 0),(78,.bool b1)] ?_
   refine OD.ifB 78 rfl (fun h7 => ?_) (fun h7 => ?_)
   ·
    refine OD.rL 13 [(2,.loc 1 0),(3,.loc 2 0)] [pbox s1 true, .box [.i64 0, .lit (.slice none 0 0), .bool false, .lit (.slice none 0 0), .i64 0, .i64 0], .box [.i64 2, .sl 2 n (l.flatMap encR), .bool (decide (nx s = 94)), .sl 6 0 ([]), .i64 0, .i64 0], .dead] ?_
    refine OD.nil (CD.seq (CD.region ?_))
    refine OD.rL 2 [(2,.loc 1 0)] [pbox s1 true, .box [.i64 2, .sl 2 n (l.flatMap encR), .bool (decide (nx s = 94)), .sl 6 0 ([]), .i64 0, .i64 0], .box [.i64 2, .sl 2 n (l.flatMap encR), .bool (decide (nx s = 94)), .sl 6 0 ([]), .i64 0, .i64 0], .dead] ?_
    refine OD.nil (CD.ret ?_)
    (try dsimp only); first | refine resP_r ?_ | refine resP_n ?_
    exact rO 1 (.agg [.i64 2, .sl 2 n (l.flatMap encR), .bool (decide (nx s = 94)), .sl 6 0 ([]), .i64 0, .i64 0]) [pbox s1 true] (set_done hr (by assumption) hn (by simp [mustM, isR, h2, h7]) (by simp [mustM, isR, h2, h7]) )
   ·
    refine OD.rE 1 [(2,.loc 1 0),(3,.loc 2 0),(73,.loc 0 0),(78,.bool false),(79,.loc 0 0)] ?_
    refine OD.guard rfl rfl ?_
    refine OD.cO [0] [.loc 0 0, .int .i32 93] (is_ok s1 b1 93 (by decide)) (fun r L1 hr => ?_)
    rcases hr with ⟨hi8, rfl, rfl⟩ | ⟨hi8, rfl, rfl⟩
    ·
     refine OD.rL 11 [(2,.loc 1 0),(3,.loc 2 0)] [pbox s1.tail (decide ((((n : Nat) : Int) : Int) = 0)), .box [.i64 0, .lit (.slice none 0 0), .bool false, .lit (.slice none 0 0), .i64 0, .i64 0], .box [.i64 2, .sl 2 n (l.flatMap encR), .bool (decide (nx s = 94)), .sl 6 0 ([]), .i64 0, .i64 0], .dead] ?_
     refine OD.nil (CD.seq (CD.region ?_))
     refine OD.rL 2 [(2,.loc 1 0)] [pbox s1.tail (decide ((((n : Nat) : Int) : Int) = 0)), .box [.i64 2, .sl 2 n (l.flatMap encR), .bool (decide (nx s = 94)), .sl 6 0 ([]), .i64 0, .i64 0], .box [.i64 2, .sl 2 n (l.flatMap encR), .bool (decide (nx s = 94)), .sl 6 0 ([]), .i64 0, .i64 0], .dead] ?_
     refine OD.nil (CD.ret ?_)
     (try dsimp only); first | refine resP_r ?_ | refine resP_n ?_
     exact rO 1 (.agg [.i64 2, .sl 2 n (l.flatMap encR), .bool (decide (nx s = 94)), .sl 6 0 ([]), .i64 0, .i64 0]) [pbox s1.tail (decide ((((n : Nat) : Int) : Int) = 0))] (set_done hr (by assumption) hn (by simp [mustM, isR, h2, h7, hi8]) (by simp [mustM, isR, h2, h7, hi8]) )
    ·
     refine OD.rL 11 [(2,.loc 1 0),(3,.loc 2 0)] [pbox s1 true, .box [.i64 0, .lit (.slice none 0 0), .bool false, .lit (.slice none 0 0), .i64 0, .i64 0], .box [.i64 2, .sl 2 n (l.flatMap encR), .bool (decide (nx s = 94)), .sl 6 0 ([]), .i64 0, .i64 0], .dead] ?_
     refine OD.nil (CD.seq (CD.region ?_))
     refine OD.rL 2 [(2,.loc 1 0)] [pbox s1 true, .box [.i64 2, .sl 2 n (l.flatMap encR), .bool (decide (nx s = 94)), .sl 6 0 ([]), .i64 0, .i64 0], .box [.i64 2, .sl 2 n (l.flatMap encR), .bool (decide (nx s = 94)), .sl 6 0 ([]), .i64 0, .i64 0], .dead] ?_
     refine OD.nil (CD.ret ?_)
     (try dsimp only); first | refine resP_r ?_ | refine resP_n ?_
     exact rO 1 (.agg [.i64 2, .sl 2 n (l.flatMap encR), .bool (decide (nx s = 94)), .sl 6 0 ([]), .i64 0, .i64 0]) [pbox s1 true] (set_done hr (by assumption) hn (by simp [mustM, isR, h2, h7, hi8]) (by simp [mustM, isR, h2, h7, hi8]) )
theorem idx134_ok (s : ByteArray) (c : Int) (hk : okOf s c = true) : PureD P ov 234 [.str s, .int .u8 c] (.i64 (zOf s c)) := by
 refine FnD.intro (by kernel_rfl) (fn := Tryz.f234) (by kernel_rfl) rfl (by kernel_rfl) fun M a0 g0 hg0 => ?_
 refine CD.seq (CD.region ?_)
 refine OD.rE 1 [(0,.str s),(1,.int .u8 c)] ?_
 refine OD.nil (CD.seq (CD.region ?_))
 refine OD.rE 2 [(5,.str s),(6,.int .u8 c)] ?_
 refine OD.ext2 rfl rfl rfl rfl (by kernel_rfl) (okOf_ok hk) ?_
 refine OD.rE 1 [(4,.i64 (zOf s c))] ?_
 refine OD.nil (CD.ret ?_)
 exact rP (.i64 (zOf s c)) (rfl)
theorem idx127_ok (s : ByteArray) (c : Int) (hk : okOf s c = true) : PureD P ov 226 [.str s, .int .u8 c] (.i64 (zOf s c)) := by
 refine FnD.intro (by kernel_rfl) (fn := Tryz.f226) (by kernel_rfl) rfl (by kernel_rfl) fun M a0 g0 hg0 => ?_
 refine CD.seq (CD.region ?_)
 refine OD.rE 1 [(0,.str s),(1,.int .u8 c)] ?_
 refine OD.nil (CD.seq (CD.region ?_))
 refine OD.rE 2 [(5,.str s),(6,.int .u8 c)] ?_
 refine OD.cE (idx134_ok s c hk) ?_
 refine OD.rE 1 [(4,.i64 (zOf s c))] ?_
 refine OD.nil (CD.ret ?_)
 exact rP (.i64 (zOf s c)) (rfl)
theorem index_ok (r : Int) (hr : signB r = true) (h0 : 0 ≤ r) (h65 : ¬ r = 65533) : PureD P ov 220 [.str special, .int .i32 r] (.i64 (ixR r)) := by
 refine FnD.intro (by kernel_rfl) (fn := Tryz.f220) (by kernel_rfl) rfl (by kernel_rfl) fun M a0 g0 hg0 => ?_
 refine CD.seq (CD.region ?_)
 refine OD.rE 1 [(0,.str special),(1,.int .i32 r)] ?_
 refine OD.nil (CD.block (CD.seq (CD.region ?_)))
 refine OD.rE 2 [(0,.str special),(1,.int .i32 r),(162,.bool (decide ((0 : Int) ≤ r)))] ?_
 refine OD.is 162 rfl (congrArg D.bool (decide_eq_true (by omega))) ?_
 refine OD.rE 5 [(0,.str special),(1,.int .i32 r),(160,.bool (decide ((r : Int) < 128)))] ?_
 refine OD.nil ?_
 refine CD.condP rfl (fun h1 => ?_) (fun h1 => ?_)
 ·
  refine CD.seq (CD.region ?_)
  refine OD.rE 3 [(167,.str special),(169,.int .u8 (wrapQ .u8 (r)))] ?_
  refine OD.is 169 rfl (wr8 (by omega) (by omega)) ?_
  refine OD.rE 0 [(167,.str special),(169,.int .u8 r)] ?_
  refine OD.cE (idx127_ok special r (low_ok h0 (by omega)).1) ?_
  refine OD.rE 1 [(4,.i64 (zOf special r))] ?_
  refine OD.nil (CD.ret ?_)
  exact rP (.i64 (zOf special r)) (congrArg (D.int .i64) (by rw [ixR, if_pos (by omega)]))
 ·
  refine CD.seq (CD.region ?_)
  refine OD.rE 2 [(0,.str special),(1,.int .i32 r),(173,.bool (decide ((r : Int) = 65533)))] ?_
  refine OD.is 173 rfl (congrArg D.bool (decide_eq_false (by omega))) ?_
  refine OD.rE 1 [(0,.str special),(1,.int .i32 r),(171,.bool false)] ?_
  refine OD.nil ?_
  refine CD.condF rfl ?_
  refine CD.seq (CD.region ?_)
  refine OD.rE 1 [(0,.str special),(1,.int .i32 r),(184,.int .i32 r)] ?_
  refine OD.cE (validRune_ok r) ?_
  refine OD.is 185 rfl (congrArg D.bool (by simp only [signB, Bool.and_eq_true] at hr; exact hr.1)) ?_
  refine OD.rE 2 [(0,.str special),(1,.int .i32 r),(183,.bool false)] ?_
  refine OD.nil ?_
  refine CD.condF rfl ?_
  refine CD.scope ?_
  refine CD.seq (CD.region ?_)
  refine OD.rE 1 [(0,.str special),(17,.int .i32 r)] ?_
  refine OD.convRS rfl (by kernel_rfl) (by kernel_rfl) ?_
  refine OD.rE 1 [(0,.str special),(7,.str (Utf8.encode r))] ?_
  refine OD.nil (CD.seq (CD.region ?_))
  refine OD.rE 2 [(0,.str special),(7,.str (Utf8.encode r)),(20,.i64 (((Utf8.encode r).size : Nat) : Int))] ?_
  obtain ⟨la, hm, hm1, hm3, hml⟩ := enc_last hr (by omega)
  have hmb := byteAt la hm1 hm3
  have hss : special.size = 14 := rfl
  have hcb := sB_lt (Utf8.encode r) la
  have hho := high_ok hm1 hm3 hml hcb
  refine OD.is 20 rfl (congrArg (fun n : Nat => D.int .i64 (n : Int)) hm) ?_
  refine OD.rE 1 [(0,.str special),(7,.str (Utf8.encode r)),(21,.i64 (wrapQ .i64 (((la + 1 : Nat) : Int) - 1)))] ?_
  refine OD.is 21 rfl (wrn (m := la) (by omega) (by omega)) ?_
  refine OD.rE 1 [(0,.str special),(7,.str (Utf8.encode r)),(8,.i64 la)] ?_
  refine OD.nil (CD.seq (CD.region ?_))
  refine OD.rE 2 [(0,.str special),(7,.str (Utf8.encode r)),(8,.i64 la),(9,.i64 la)] ?_
  refine OD.nil (CD.seq (CD.region ?_))
  refine OD.rE 1 [(0,.str special),(7,.str (Utf8.encode r)),(8,.i64 la),(9,.i64 la)] ?_
  refine OD.nil (CD.seq (CD.block ?_))
  refine CD.weak [0, 7, 8, 9] 0 (E' := [(0, .str special), (7, .str (Utf8.encode r)), (8, .i64 la), (9, .i64 la)]) (by kernel_rfl) (by simp [hg0]) (by kernel_rfl) ?_
  refine CD.loop (fun m σ => σ = ⟨[(0, .str special), (7, .str (Utf8.encode r)), (8, .i64 la), (9, .i64 la)], []⟩ ∧ m = la + 1) (fun m σ hI => ?_) _ ⟨(by kernel_rfl), rfl⟩
  obtain ⟨e, hm⟩ := hI
  subst e hm
  refine CD.seq (CD.seq (CD.region ?_))
  refine OD.rE 3 [(0,.str special),(7,.str (Utf8.encode r)),(8,.i64 la),(9,.i64 la),(23,.i64 la),(25,.i64 special.size)] ?_
  refine OD.is 25 rfl (congrArg (fun n : Nat => D.int .i64 (n : Int)) (show special.size = 14 from rfl)) ?_
  refine OD.rE 1 [(0,.str special),(7,.str (Utf8.encode r)),(8,.i64 la),(9,.i64 la),(26,.bool (decide ((((la : Nat) : Int) : Int) < 14)))] ?_
  refine OD.nil ?_
  refine CD.condP rfl (fun h2 => ?_) (fun h2 => ?_)
  ·
   refine CD.skip (CD.block ?_)
   refine CD.scope ?_
   refine CD.seq (CD.seq ?_)
   refine CD.drawn (by kernel_rfl) ?_
   refine OD.rE 2 [(0,.str special),(7,.str (Utf8.encode r)),(8,.i64 la),(9,.i64 la),(27,.str special),(28,.i64 la)] ?_
   refine OD.ixS (i := la) rfl rfl (by kernel_rfl) (by omega) (by omega) (fun hb1 => ?_)
   refine OD.rE 2 [(0,.str special),(7,.str (Utf8.encode r)),(8,.i64 la),(9,.i64 la),(29,.int .u8 ((sB special la : Nat) : Int)),(30,.str (Utf8.encode r)),(31,.i64 la)] ?_
   refine OD.ixS (i := la) rfl rfl (by kernel_rfl) (by omega) (by omega) (fun hb2 => ?_)
   refine OD.rE 1 [(0,.str special),(7,.str (Utf8.encode r)),(8,.i64 la),(9,.i64 la),(33,.bool (decide (¬ (((sB special la : Nat) : Int) : Int) = ((sB (Utf8.encode r) la : Nat) : Int))))] ?_
   refine OD.is 33 rfl (congrArg D.bool (decide_eq_true (by omega))) ?_
   refine OD.rE 0 [(0,.str special),(7,.str (Utf8.encode r)),(8,.i64 la),(9,.i64 la),(33,.bool true)] ?_
   refine OD.nil ⟨by kernel_rfl, ?_⟩
   refine CD.condT rfl ?_
   refine CD.seq ?_
   refine CD.drawn (by kernel_rfl) ?_
   refine OD.rE 3 [(0,.str special),(7,.str (Utf8.encode r)),(8,.i64 la),(9,.i64 la),(34,.str special),(36,.i64 (wrapQ .i64 (((la : Nat) : Int) + 1)))] ?_
   refine OD.is 36 rfl (wrn (m := la + 1) (by omega) (by omega)) ?_
   refine OD.rE 0 [(0,.str special),(7,.str (Utf8.encode r)),(8,.i64 la),(9,.i64 la),(34,.str special),(36,.i64 ((la + 1 : Nat) : Int))] ?_
   refine OD.slS (lw := (la + 1)) (u := special.size) rfl (by kernel_rfl) (.inr ⟨_, _, rfl, rfl⟩) (.inl ⟨rfl, rfl⟩) (by omega) (by omega) ?_
   refine OD.rE 2 [(0,.str special),(7,.str (Utf8.encode r)),(8,.i64 la),(9,.i64 la),(37,.str (special.extract (la + 1) special.size)),(38,.str (Utf8.encode r)),(39,.i64 la)] ?_
   refine OD.ixS (i := la) rfl rfl (by kernel_rfl) (by omega) (by omega) (fun hb3 => ?_)
   refine OD.rE 0 [(0,.str special),(7,.str (Utf8.encode r)),(8,.i64 la),(9,.i64 la),(37,.str (special.extract (la + 1) special.size)),(40,.int .u8 ((sB (Utf8.encode r) la : Nat) : Int))] ?_
   refine OD.cE (idx127_ok (special.extract (la + 1) special.size) ((sB (Utf8.encode r) la : Nat) : Int) hho.1) ?_
   refine OD.rE 1 [(0,.str special),(7,.str (Utf8.encode r)),(8,.i64 la),(9,.i64 la),(11,.i64 (zOf (special.extract (la + 1) special.size) ((sB (Utf8.encode r) la : Nat) : Int)))] ?_
   refine OD.nil ⟨by kernel_rfl, ?_⟩
   refine CD.seq (CD.seq (CD.region ?_))
   refine OD.rE 2 [(0,.str special),(7,.str (Utf8.encode r)),(8,.i64 la),(9,.i64 la),(11,.i64 (zOf (special.extract (la + 1) special.size) ((sB (Utf8.encode r) la : Nat) : Int))),(43,.bool (decide (((zOf (special.extract (la + 1) special.size) ((sB (Utf8.encode r) la : Nat) : Int)) : Int) < 0)))] ?_
   refine OD.is 43 rfl (congrArg D.bool (decide_eq_true hho.2)) ?_
   refine OD.rE 0 [(0,.str special),(7,.str (Utf8.encode r)),(8,.i64 la),(9,.i64 la),(11,.i64 (zOf (special.extract (la + 1) special.size) ((sB (Utf8.encode r) la : Nat) : Int))),(43,.bool true)] ?_
   refine OD.nil ?_
   refine CD.condT rfl ?_
   refine CD.seq (CD.region ?_)
   refine OD.rE 1 [(4,.i64 (-1))] ?_
   refine OD.nil (CD.ret ?_)
   exact rP (.i64 (-1)) (congrArg (D.int .i64) (by rw [ixR, if_neg (by omega)]))
  ·
   refine CD.exit ?_
   refine CD.seq (CD.seq (CD.region ?_))
   refine OD.rE 1 [(4,.i64 (-1))] ?_
   refine OD.nil (CD.ret ?_)
   exact rP (.i64 (-1)) (congrArg (D.int .i64) (by rw [ixR, if_neg (by omega)]))
theorem contains_ok (r : Int) (h : signB r = true) : PureD P ov 204 [.str special, .int .i32 r] (.bool (specB r)) := by
 refine FnD.intro (by kernel_rfl) (fn := Tryz.f204) (by kernel_rfl) rfl (by kernel_rfl) fun M a0 g0 hg0 => ?_
 refine CD.seq (CD.region ?_)
 refine OD.rE 1 [(0,.str special),(1,.int .i32 r)] ?_
 refine OD.nil (CD.seq (CD.region ?_))
 refine OD.rE 2 [(5,.str special),(6,.int .i32 r)] ?_
 refine OD.cE (index_ok r h (sign_0 h) (sign_65 h)) ?_
 refine OD.rE 2 [(4,.bool (decide ((0 : Int) ≤ (ixR r))))] ?_
 refine OD.nil (CD.ret ?_)
 exact rP (.bool (decide ((0 : Int) ≤ (ixR r)))) (congrArg D.bool (ixR_spec h))
end
end Go.Proofs.YtfcadnhoejlgoaaGreatDoor
set_option maxRecDepth 100000
set_option maxHeartbeats 4000000
namespace Go.Proofs.YtfcadnhoejlgoaaGreatDoor
open Go.Vai Go.Nfa
noncomputable section
theorem atom_ok (N : Nat) (hN0 : N ≤ 1000000) (alt : Rdr) (hP : ∀ s b, okS s → s.length + 1 ≤ N → FnD P ov 54 [.loc 0 0] [pbox s b] (postN (alt s b))) (s : List Int) (b : Bool) (hs : okS s) (hN : s.length ≤ N) : FnD P ov 178 [.loc 0 0] [pbox s b] (postN (atomM alt s b)) := by
 refine FnD.intro (by kernel_rfl) (fn := Tryz.f178) (by kernel_rfl) rfl (by kernel_rfl) fun M a0 g0 hg0 => ?_
 refine CD.seq (CD.region ?_)
 refine OD.rL 1 [(0,.loc 0 0),(2,.loc 1 0)] [pbox s b, .box [.i64 0, .lit (.slice none 0 0), .bool false, .lit (.slice none 0 0), .i64 0, .i64 0]] ?_
 refine OD.nil (CD.seq (CD.region ?_))
 refine OD.rE 1 [(0,.loc 0 0),(2,.loc 1 0),(5,.loc 0 0)] ?_
 refine OD.cO [0] [.loc 0 0] (take_ok s b) (fun r L1 hr => ?_)
 obtain ⟨rfl, rfl⟩ := hr
 refine OD.rE 1 [(0,.loc 0 0),(2,.loc 1 0),(3,.int .i32 ((tkM s b).1))] ?_
 refine OD.nil (CD.seq (CD.seq (CD.region ?_)))
 refine OD.rE 1 [(0,.loc 0 0),(2,.loc 1 0),(3,.int .i32 ((tkM s b).1)),(7,.int .i32 ((tkM s b).1))] ?_
 refine OD.nil (CD.block (CD.seq (CD.region ?_)))
 refine OD.rE 2 [(0,.loc 0 0),(2,.loc 1 0),(3,.int .i32 ((tkM s b).1)),(7,.int .i32 ((tkM s b).1)),(8,.bool (decide (((tkM s b).1 : Int) = 40)))] ?_
 refine OD.nil ?_
 refine CD.condP rfl (fun h1 => ?_) (fun h1 => ?_)
 ·
  refine CD.seq (CD.region ?_)
  refine OD.rE 1 [(0,.loc 0 0),(2,.loc 1 0),(10,.loc 0 0)] ?_
  refine OD.cO [0] [.loc 0 0] (hP ((tkM s b).2.1) (tkM s b).2.2 (hs.sfx (tk_le s b)) (by have := tk_one (by assumption); omega)) (fun r L1 hr => ?_)
  obtain ⟨rfl, rfl⟩ := hr
  refine OD.rL 2 [(0,.loc 0 0),(2,.loc 1 0),(4,.loc 2 0)] [pbox ((alt ((tkM s b).2.1) (tkM s b).2.2).2.1) (alt ((tkM s b).2.1) (tkM s b).2.2).2.2, .box [.i64 0, .lit (.slice none 0 0), .bool false, .lit (.slice none 0 0), .i64 0, .i64 0], .box (celN ((alt ((tkM s b).2.1) (tkM s b).2.2).1))] ?_
  refine OD.nil (CD.seq (CD.region ?_))
  refine OD.rE 6 [(0,.loc 0 0),(2,.loc 1 0),(4,.loc 2 0),(12,.loc 0 0),(17,.bool (alt ((tkM s b).2.1) (tkM s b).2.2).2.2)] ?_
  refine OD.ifB 17 rfl (fun h2 => ?_) (fun h2 => ?_)
  ·
   refine OD.rL 7 [(2,.loc 1 0),(4,.loc 2 0)] [pbox ((alt ((tkM s b).2.1) (tkM s b).2.2).2.1) true, .box [.i64 0, .lit (.slice none 0 0), .bool false, .lit (.slice none 0 0), .i64 0, .i64 0], .box (celN ((alt ((tkM s b).2.1) (tkM s b).2.2).1))] ?_
   refine OD.nil (CD.seq (CD.region ?_))
   refine OD.rL 2 [(2,.loc 1 0)] [pbox ((alt ((tkM s b).2.1) (tkM s b).2.2).2.1) true, .box (celN ((alt ((tkM s b).2.1) (tkM s b).2.2).1)), .box (celN ((alt ((tkM s b).2.1) (tkM s b).2.2).1))] ?_
   refine OD.nil (CD.ret ?_)
   (try dsimp only); first | refine resP_r ?_ | refine resP_n ?_
   exact rO 1 (.agg (celN ((alt ((tkM s b).2.1) (tkM s b).2.2).1))) [pbox ((alt ((tkM s b).2.1) (tkM s b).2.2).2.1) true] ((by constructor <;> first | (exfalso; omega) | (simp [atomM, mustM, isR, h1, h2]; done) | (simp [atomM, mustM, isR, h1, h2]; rfl)))
  ·
   refine OD.rE 1 [(2,.loc 1 0),(4,.loc 2 0),(12,.loc 0 0),(17,.bool false),(18,.loc 0 0)] ?_
   refine OD.guard rfl rfl ?_
   refine OD.cO [0] [.loc 0 0, .int .i32 41] (is_ok ((alt ((tkM s b).2.1) (tkM s b).2.2).2.1) (alt ((tkM s b).2.1) (tkM s b).2.2).2.2 41 (by decide)) (fun r L1 hr => ?_)
   rcases hr with ⟨hi3, rfl, rfl⟩ | ⟨hi3, rfl, rfl⟩
   ·
    refine OD.rL 5 [(2,.loc 1 0),(4,.loc 2 0)] [pbox (((alt ((tkM s b).2.1) (tkM s b).2.2).2.1).tail) false, .box [.i64 0, .lit (.slice none 0 0), .bool false, .lit (.slice none 0 0), .i64 0, .i64 0], .box (celN ((alt ((tkM s b).2.1) (tkM s b).2.2).1))] ?_
    refine OD.nil (CD.seq (CD.region ?_))
    refine OD.rL 2 [(2,.loc 1 0)] [pbox (((alt ((tkM s b).2.1) (tkM s b).2.2).2.1).tail) false, .box (celN ((alt ((tkM s b).2.1) (tkM s b).2.2).1)), .box (celN ((alt ((tkM s b).2.1) (tkM s b).2.2).1))] ?_
    refine OD.nil (CD.ret ?_)
    (try dsimp only); first | refine resP_r ?_ | refine resP_n ?_
    exact rO 1 (.agg (celN ((alt ((tkM s b).2.1) (tkM s b).2.2).1))) [pbox (((alt ((tkM s b).2.1) (tkM s b).2.2).2.1).tail) false] ((by constructor <;> first | (exfalso; omega) | (simp [atomM, mustM, isR, h1, h2, hi3]; done) | (simp [atomM, mustM, isR, h1, h2, hi3]; rfl)))
   ·
    refine OD.rL 5 [(2,.loc 1 0),(4,.loc 2 0)] [pbox ((alt ((tkM s b).2.1) (tkM s b).2.2).2.1) true, .box [.i64 0, .lit (.slice none 0 0), .bool false, .lit (.slice none 0 0), .i64 0, .i64 0], .box (celN ((alt ((tkM s b).2.1) (tkM s b).2.2).1))] ?_
    refine OD.nil (CD.seq (CD.region ?_))
    refine OD.rL 2 [(2,.loc 1 0)] [pbox ((alt ((tkM s b).2.1) (tkM s b).2.2).2.1) true, .box (celN ((alt ((tkM s b).2.1) (tkM s b).2.2).1)), .box (celN ((alt ((tkM s b).2.1) (tkM s b).2.2).1))] ?_
    refine OD.nil (CD.ret ?_)
    (try dsimp only); first | refine resP_r ?_ | refine resP_n ?_
    exact rO 1 (.agg (celN ((alt ((tkM s b).2.1) (tkM s b).2.2).1))) [pbox ((alt ((tkM s b).2.1) (tkM s b).2.2).2.1) true] ((by constructor <;> first | (exfalso; omega) | (simp [atomM, mustM, isR, h1, h2, hi3]; done) | (simp [atomM, mustM, isR, h1, h2, hi3]; rfl)))
 ·
  refine CD.seq (CD.region ?_)
  refine OD.rE 2 [(0,.loc 0 0),(2,.loc 1 0),(3,.int .i32 ((tkM s b).1)),(7,.int .i32 ((tkM s b).1)),(25,.bool (decide (((tkM s b).1 : Int) = 46)))] ?_
  refine OD.nil ?_
  refine CD.condP rfl (fun h4 => ?_) (fun h4 => ?_)
  ·
   refine CD.seq (CD.region ?_)
   refine OD.rE 1 [(2,.loc 1 0),(27,.agg [.i64 2, .lit (.slice none 0 0), .bool true, .lit (.slice none 0 0), .i64 0, .i64 0])] ?_
   refine OD.reNil 27 [0, 2, 0, 6, 0, 0] (ds' := [.i64 2, .sl 2 0 ([]), .bool true, .sl 6 0 ([]), .i64 0, .i64 0]) rfl (by kernel_rfl) ?_
   refine OD.rL 1 [(2,.loc 1 0)] [pbox ((tkM s b).2.1) (tkM s b).2.2, .box [.i64 2, .sl 2 0 ([]), .bool true, .sl 6 0 ([]), .i64 0, .i64 0]] ?_
   refine OD.nil (CD.ret ?_)
   (try dsimp only); first | refine resP_r ?_ | refine resP_n ?_
   exact rO 1 (.agg [.i64 2, .sl 2 0 ([]), .bool true, .sl 6 0 ([]), .i64 0, .i64 0]) [pbox ((tkM s b).2.1) (tkM s b).2.2] ((by constructor <;> first | (exfalso; omega) | (simp [atomM, mustM, isR, h1, h4]; done) | (simp [atomM, mustM, isR, h1, h4]; rfl)))
  ·
   refine CD.seq (CD.region ?_)
   refine OD.rE 2 [(0,.loc 0 0),(2,.loc 1 0),(3,.int .i32 ((tkM s b).1)),(7,.int .i32 ((tkM s b).1)),(28,.bool (decide (((tkM s b).1 : Int) = 94)))] ?_
   refine OD.nil ?_
   refine CD.condP rfl (fun h5 => ?_) (fun h5 => ?_)
   ·
    refine CD.seq (CD.region ?_)
    refine OD.rE 1 [(2,.loc 1 0),(30,.agg [.i64 6, .lit (.slice none 0 0), .bool false, .lit (.slice none 0 0), .i64 0, .i64 0])] ?_
    refine OD.reNil 30 [0, 2, 0, 6, 0, 0] (ds' := [.i64 6, .sl 2 0 ([]), .bool false, .sl 6 0 ([]), .i64 0, .i64 0]) rfl (by kernel_rfl) ?_
    refine OD.rL 1 [(2,.loc 1 0)] [pbox ((tkM s b).2.1) (tkM s b).2.2, .box [.i64 6, .sl 2 0 ([]), .bool false, .sl 6 0 ([]), .i64 0, .i64 0]] ?_
    refine OD.nil (CD.ret ?_)
    (try dsimp only); first | refine resP_r ?_ | refine resP_n ?_
    exact rO 1 (.agg [.i64 6, .sl 2 0 ([]), .bool false, .sl 6 0 ([]), .i64 0, .i64 0]) [pbox ((tkM s b).2.1) (tkM s b).2.2] ((by constructor <;> first | (exfalso; omega) | (simp [atomM, mustM, isR, h1, h4, h5]; done) | (simp [atomM, mustM, isR, h1, h4, h5]; rfl)))
   ·
    refine CD.seq (CD.region ?_)
    refine OD.rE 2 [(0,.loc 0 0),(2,.loc 1 0),(3,.int .i32 ((tkM s b).1)),(7,.int .i32 ((tkM s b).1)),(31,.bool (decide (((tkM s b).1 : Int) = 36)))] ?_
    refine OD.nil ?_
    refine CD.condP rfl (fun h6 => ?_) (fun h6 => ?_)
    ·
     refine CD.seq (CD.region ?_)
     refine OD.rE 1 [(2,.loc 1 0),(33,.agg [.i64 7, .lit (.slice none 0 0), .bool false, .lit (.slice none 0 0), .i64 0, .i64 0])] ?_
     refine OD.reNil 33 [0, 2, 0, 6, 0, 0] (ds' := [.i64 7, .sl 2 0 ([]), .bool false, .sl 6 0 ([]), .i64 0, .i64 0]) rfl (by kernel_rfl) ?_
     refine OD.rL 1 [(2,.loc 1 0)] [pbox ((tkM s b).2.1) (tkM s b).2.2, .box [.i64 7, .sl 2 0 ([]), .bool false, .sl 6 0 ([]), .i64 0, .i64 0]] ?_
     refine OD.nil (CD.ret ?_)
     (try dsimp only); first | refine resP_r ?_ | refine resP_n ?_
     exact rO 1 (.agg [.i64 7, .sl 2 0 ([]), .bool false, .sl 6 0 ([]), .i64 0, .i64 0]) [pbox ((tkM s b).2.1) (tkM s b).2.2] ((by constructor <;> first | (exfalso; omega) | (simp [atomM, mustM, isR, h1, h4, h5, h6]; done) | (simp [atomM, mustM, isR, h1, h4, h5, h6]; rfl)))
    ·
     refine CD.seq (CD.region ?_)
     refine OD.rE 2 [(0,.loc 0 0),(2,.loc 1 0),(3,.int .i32 ((tkM s b).1)),(7,.int .i32 ((tkM s b).1)),(34,.bool (decide (((tkM s b).1 : Int) = 92)))] ?_
     refine OD.nil ?_
     refine CD.condP rfl (fun h7 => ?_) (fun h7 => ?_)
     ·
      refine CD.seq (CD.region ?_)
      refine OD.rE 1 [(2,.loc 1 0),(36,.loc 0 0)] ?_
      refine OD.cO [0] [.loc 0 0] (take_ok ((tkM s b).2.1) (tkM s b).2.2) (fun r L1 hr => ?_)
      obtain ⟨rfl, rfl⟩ := hr
      refine OD.rE 0 [(2,.loc 1 0),(37,.int .i32 ((tkM ((tkM s b).2.1) (tkM s b).2.2).1))] ?_
      refine OD.cE (literal_ok ((tkM ((tkM s b).2.1) (tkM s b).2.2).1)) ?_
      refine OD.rL 1 [(2,.loc 1 0)] [pbox ((tkM ((tkM s b).2.1) (tkM s b).2.2).2.1) (tkM ((tkM s b).2.1) (tkM s b).2.2).2.2, .box (celN (litN ((tkM ((tkM s b).2.1) (tkM s b).2.2).1)))] ?_
      refine OD.nil (CD.ret ?_)
      (try dsimp only); first | refine resP_r ?_ | refine resP_n ?_
      exact rO 1 (.agg (celN (litN ((tkM ((tkM s b).2.1) (tkM s b).2.2).1)))) [pbox ((tkM ((tkM s b).2.1) (tkM s b).2.2).2.1) (tkM ((tkM s b).2.1) (tkM s b).2.2).2.2] ((by constructor <;> first | (exfalso; omega) | (simp [atomM, mustM, isR, h1, h4, h5, h6, h7]; done) | (simp [atomM, mustM, isR, h1, h4, h5, h6, h7]; rfl)))
     ·
      refine CD.seq (CD.region ?_)
      refine OD.rE 2 [(0,.loc 0 0),(2,.loc 1 0),(3,.int .i32 ((tkM s b).1)),(39,.bool (decide (((tkM s b).1 : Int) = 91)))] ?_
      refine OD.nil ?_
      refine CD.condP rfl (fun h8 => ?_) (fun h8 => ?_)
      ·
       refine CD.seq (CD.region ?_)
       refine OD.rE 1 [(2,.loc 1 0),(41,.loc 0 0)] ?_
       refine OD.cO [0] [.loc 0 0] (set_ok ((tkM s b).2.1) (tkM s b).2.2 (by have := (tk_le s b).length_le; omega)) (fun r L1 hr => ?_)
       obtain ⟨rfl, rfl⟩ := hr
       refine OD.rL 1 [(2,.loc 1 0)] [pbox ((setM ((tkM s b).2.1) (tkM s b).2.2).2.1) (setM ((tkM s b).2.1) (tkM s b).2.2).2.2, .box (celN ((setM ((tkM s b).2.1) (tkM s b).2.2).1))] ?_
       refine OD.nil (CD.ret ?_)
       (try dsimp only); first | refine resP_r ?_ | refine resP_n ?_
       exact rO 1 (.agg (celN ((setM ((tkM s b).2.1) (tkM s b).2.2).1))) [pbox ((setM ((tkM s b).2.1) (tkM s b).2.2).2.1) (setM ((tkM s b).2.1) (tkM s b).2.2).2.2] ((by constructor <;> first | (exfalso; omega) | (simp [atomM, mustM, isR, h1, h4, h5, h6, h7, h8]; done) | (simp [atomM, mustM, isR, h1, h4, h5, h6, h7, h8]; rfl)))
      ·
       refine CD.skip (CD.seq (CD.region ?_))
       refine OD.rE 6 [(2,.loc 1 0),(3,.int .i32 ((tkM s b).1)),(43,.loc 0 0),(48,.bool (tkM s b).2.2)] ?_
       refine OD.ifB 48 rfl (fun h9 => ?_) (fun h9 => ?_)
       ·
        refine OD.rL 6 [(2,.loc 1 0),(3,.int .i32 ((tkM s b).1))] [pbox ((tkM s b).2.1) true, .box [.i64 0, .lit (.slice none 0 0), .bool false, .lit (.slice none 0 0), .i64 0, .i64 0]] ?_
        refine OD.nil (CD.seq (CD.region ?_))
        refine OD.rE 1 [(2,.loc 1 0),(54,.int .i32 ((tkM s b).1))] ?_
        refine OD.cE (literal_ok ((tkM s b).1)) ?_
        refine OD.rL 1 [(2,.loc 1 0)] [pbox ((tkM s b).2.1) true, .box (celN (litN ((tkM s b).1)))] ?_
        refine OD.nil (CD.ret ?_)
        (try dsimp only); first | refine resP_r ?_ | refine resP_n ?_
        exact rO 1 (.agg (celN (litN ((tkM s b).1)))) [pbox ((tkM s b).2.1) true] ((by constructor <;> first | (exfalso; omega) | (simp [atomM, mustM, isR, h1, h4, h5, h6, h7, h8, h9]; done) | (simp [atomM, mustM, isR, h1, h4, h5, h6, h7, h8, h9]; rfl)))
       ·
        refine OD.rE 1 [(2,.loc 1 0),(3,.int .i32 ((tkM s b).1)),(43,.loc 0 0),(48,.bool false),(49,.int .i32 ((tkM s b).1))] ?_
        refine OD.guard rfl rfl ?_
        refine OD.cE (contains_ok ((tkM s b).1) (tk_sign hs (by assumption))) ?_
        refine OD.rL 4 [(2,.loc 1 0),(3,.int .i32 ((tkM s b).1))] [pbox ((tkM s b).2.1) (specB ((tkM s b).1)), .box [.i64 0, .lit (.slice none 0 0), .bool false, .lit (.slice none 0 0), .i64 0, .i64 0]] ?_
        refine OD.nil (CD.seq (CD.region ?_))
        refine OD.rE 1 [(2,.loc 1 0),(54,.int .i32 ((tkM s b).1))] ?_
        refine OD.cE (literal_ok ((tkM s b).1)) ?_
        refine OD.rL 1 [(2,.loc 1 0)] [pbox ((tkM s b).2.1) (specB ((tkM s b).1)), .box (celN (litN ((tkM s b).1)))] ?_
        refine OD.nil (CD.ret ?_)
        (try dsimp only); first | refine resP_r ?_ | refine resP_n ?_
        exact rO 1 (.agg (celN (litN ((tkM s b).1)))) [pbox ((tkM s b).2.1) (specB ((tkM s b).1))] ((by constructor <;> first | (exfalso; omega) | (simp [atomM, mustM, isR, h1, h4, h5, h6, h7, h8, h9]; done) | (simp [atomM, mustM, isR, h1, h4, h5, h6, h7, h8, h9]; rfl)))
end
end Go.Proofs.YtfcadnhoejlgoaaGreatDoor
namespace Go.Proofs.YtfcadnhoejlgoaaGreatDoor
open Go.Vai Go.Nfa
noncomputable section
theorem altF_ok : ∀ (f : Nat), f ≤ 1000000 → ∀ (s : List Int) (b : Bool), okS s → s.length + 1 ≤ f → FnD P ov 54 [.loc 0 0] [pbox s b] (postN (altF f s b)) := by
 intro f
 induction f with
 | zero => intro _ s b _ h; omega
 | succ f ih =>
  intro hf s b hs h
  have A : ∀ s b, okS s → s.length ≤ f → FnD P ov 178 [.loc 0 0] [pbox s b] (postN (atomF f s b)) := fun s b hs hl => atom_ok f (by omega) (altF f) (fun s b hs hl => ih (by omega) s b hs hl) s b hs hl
  have B : ∀ s b, okS s → s.length ≤ f → FnD P ov 139 [.loc 0 0] [pbox s b] (postN (pieceF f s b)) := fun s b hs hl => piece_ok f (by omega) (atomF f) A s b hs hl
  have R : ∀ s b, okS s → s.length ≤ f → FnD P ov 95 [.loc 0 0] [pbox s b] (postN (rowF f s b)) := fun s b hs hl => row_ok f (by omega) (pieceF f) B (pieceF_le f) (pieceF_lt f) s b hs hl
  exact alt_ok f (by omega) (rowF f) R (rowF_le f) s b hs (by omega)
end
end Go.Proofs.YtfcadnhoejlgoaaGreatDoor

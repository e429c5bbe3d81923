/-
  What is proved here: places that are marked one by one; an alternation's ends, and a row's, out of their parts' ends; patterns of short texts are small. what functions of the pattern's package come to (walks that a program of mine has printed). No conditions but those that the theorems state.
-/
import Derived.Test.YtiebldaihnbkmaaGreatDoorNQ
import Derived.Test.YtiebldaihnbkmaaGreatDoorPGa
import Derived.Test.YtiebldaihnbkmaaGreatDoorRM
import Derived.Test.YtiebldaihnbkmaaGreatDoorNR
import Derived.Test.YtiebldaihnbkmaaGreatDoorPureEmp
import Derived.Test.YtiebldaihnbkmaaGreatDoorUJ
set_option linter.unusedVariables false
set_option linter.unusedSimpArgs false
namespace Go.Vai
open Go.Nfa Go.Utf
theorem put_len (q : Ust) (b : Nat) : (putM q b).1.length + min (putM q b).2.w 1 ≤ 1 + min q.w 1 := by
 have hb : ∀ q : Ust, (begM q b).1.length + min (begM q b).2.w 1 ≤ 1 := by
  intro q
  unfold begM
  (repeat' split) <;> simp
 unfold putM
 split
 · have := hb q; omega
 ·
  rename_i hw
  split
  · have := hb { q with w := 0 }; simp only [List.length_cons]; omega
  ·
   split
   · simp only [List.length_nil]; omega
   · simp only [List.length_cons, List.length_nil]; omega
theorem run_len1 : ∀ (bs : List Nat) (q : Ust), (runM q bs).1.length + min (runM q bs).2.w 1 ≤ bs.length + min q.w 1 := by
 intro bs
 induction bs with
 | nil => intro q; simp [runM]
 | cons b bs ih =>
  intro q
  have p := put_len q b
  have i := ih (putM q b).2
  simp only [runM, List.length_append, List.length_cons]
  omega
theorem all_len1 (s : ByteArray) : (allM (bytesOf s)).length ≤ s.size := by
 have h := run_len1 (bytesOf s) ⟨0, 0, 0, 0, 0⟩
 have h3 : (bytesOf s).length = s.size := by simp [bytesOf]
 unfold allM endM
 rw [List.length_append]
 split
 · simp only [List.length_nil]; dsimp only at h; omega
 · simp only [List.length_cons, List.length_nil]; dsimp only at h; omega
theorem parse_small {s : ByteArray} {N : Nd} (h : parseM s = some N) : size N + 1 ≤ 2 * s.size := by
 unfold parseM at h
 split at h
 · cases h
 ·
  rename_i h1
  split at h
  · cases h
  ·
   rename_i h2
   cases h
   have hl := all_len1 s
   have hb : (altF ((allM (bytesOf s)).length + 1) (allM (bytesOf s)) false).2.2 = false := by
    cases e : (altF ((allM (bytesOf s)).length + 1) (allM (bytesOf s)) false).2.2 with
    | true => exact absurd (.inl e) h2
    | false => rfl
   have g := altF_good _ _ _ (okS_all fun e => h1 (.inr (.inr e))) hb
   omega
mutual
theorem wr_bd : ∀ N : Nd, wr K14 1000000 N ≤ 1000001
 | .mk k set no kids mn mx => by rw [wr]; have := wrL_bd kids 0 (by omega); split <;> (try split) <;> (try split) <;> omega
theorem wrL_bd : ∀ (ks : List Nd) (w : Nat), w ≤ 1000000 → wrL K14 1000000 ks w ≤ 1000000
 | [], w, h => by rw [wrL]; exact h
 | n :: ns, w, h => by rw [wrL]; exact wrL_bd ns _ (by omega)
end
def mset (b : List Bool) (ks : List Nat) : List Bool := ks.foldl (fun b k => b.set k true) b
theorem mset_app {b : List Bool} {xs ys : List Nat} : mset b (xs ++ ys) = mset (mset b xs) ys := List.foldl_append
theorem mset_snoc {b : List Bool} {xs : List Nat} {k : Nat} : mset b (xs ++ [k]) = (mset b xs).set k true := mset_app
theorem mk_mset : ∀ {ks : List Nat} {b : List Bool} {j : Nat}, (∀ k ∈ ks, k < b.length) → (Nfa.mk (mset b ks) j ↔ Nfa.mk b j ∨ j ∈ ks) := by
 intro ks
 induction ks with
 | nil => intro b j _; simp [mset]
 | cons k ks ih =>
  intro b j h
  show Nfa.mk (mset (b.set k true) ks) j ↔ _
  rw [ih fun x hx => by rw [List.length_set]; exact h x (by simp [hx]), List.mem_cons]
  have hk := h k (by simp)
  unfold Nfa.mk
  rw [List.getElem?_set]
  by_cases e : k = j
  · subst e; simp [hk]
  ·
   rw [if_neg e]
   have : ¬ j = k := fun q => e q.symm
   simp [this]
def markd (b : List Bool) (i : Nat) : List Nat := (List.range i).filter fun j => b.getD j false
theorem markd_all (b : List Bool) : markd b b.length = idxs b := rfl
theorem markd_pos {b : List Bool} {i : Nat} (h : b.getD i false = true) : markd b (i + 1) = markd b i ++ [i] := by
 unfold markd; rw [idxs_step, if_pos h]
theorem markd_neg {b : List Bool} {i : Nat} (h : ¬ b.getD i false = true) : markd b (i + 1) = markd b i := by
 unfold markd; rw [idxs_step, if_neg h, List.append_nil]
theorem markd_pre {b : List Bool} {i : Nat} : ∀ d : Nat, ∃ r, markd b (i + d) = markd b i ++ r := by
 intro d
 induction d with
 | zero => exact ⟨[], by simp⟩
 | succ d ih =>
  obtain ⟨r, hr⟩ := ih
  rw [← Nat.add_assoc]
  by_cases h : b.getD (i + d) false = true
  · exact ⟨r ++ [i + d], by rw [markd_pos h, hr, List.append_assoc]⟩
  · exact ⟨r, by rw [markd_neg h, hr]⟩
theorem mark_at {es : List Nat} {b : List Bool} {i n : Nat} (he : es = idxs b) (hn : n = (markd b i).length) (hi : i < b.length) (h : b.getD i false = true) : n < es.length ∧ es.getD n 0 = i ∧ n + 1 = (markd b (i + 1)).length := by
 obtain ⟨r, hr⟩ := markd_pre (b := b) (i := i + 1) (b.length - (i + 1))
 rw [show i + 1 + (b.length - (i + 1)) = b.length by omega, markd_all, ← he, markd_pos h] at hr
 subst hn
 refine ⟨by rw [hr]; simp, ?_, by rw [markd_pos h]; simp⟩
 rw [hr, List.append_assoc]; simp [List.getD_eq_getElem?_getD]
theorem mark_no {b : List Bool} {i n : Nat} (hn : n = (markd b i).length) (h : b.getD i false = false) : n = (markd b (i + 1)).length := by rw [markd_neg (by rw [h]; decide)]; exact hn
theorem mark_end {es : List Nat} {b : List Bool} {i n : Nat} (he : es = idxs b) (hn : n = (markd b i).length) (hi : i = b.length) : n = es.length := by rw [hn, hi, markd_all, he]
abbrev altN (X Y : Nd) : Nd := .mk 4 [] false [X, Y] 0 0
abbrev catN (X Y : Nd) : Nd := .mk 3 [] false [X, Y] 0 0
theorem two_fit {k : Int} {X Y : Nd} (hX : fit X) (hY : fit Y) : fit (.mk k [] false [X, Y] 0 0) := by
 rw [fit, fitL, fitL, fitL]
 exact ⟨by decide, by simp, by decide, by decide, hX, hY, trivial⟩
theorem alt_loc {X Y : Nd} (hX : allLoc locB X) (hY : allLoc locB Y) : allLoc locB (altN X Y) := by
 rw [allLoc, allLocL, allLocL, allLocL]; exact ⟨rfl, hX, hY, trivial⟩
theorem cat_loc {X Y : Nd} (hX : allLoc locB X) (hY : allLoc locB Y) : allLoc locB (catN X Y) := by
 rw [allLoc, allLocL, allLocL, allLocL]; exact ⟨rfl, hX, hY, trivial⟩
theorem wp_of {N : Nd} (h : wr K14 1000000 N ≤ 20000) : wp K14 20001 N ≤ 20000 := by
 by_cases e : wp K14 20001 N ≤ 20000
 · exact e
 · exact absurd h (wr_big e)
theorem one_comp {X : Nd} (hX : allLoc locB X) (sX : size X ≤ 30) (hw : wr K14 1000000 X ≤ 300) : Nfa.cnt locB X 1 ≤ 2000 ∧ wp K14 20001 X ≤ 20000 := by
 have := deep_size X
 have := (Nfa.cnt_ok locB X 1).1 ⟨by omega, by omega, hX⟩
 exact ⟨by omega, wp_of (by omega)⟩
theorem alt_comp {X Y : Nd} (hX : allLoc locB X) (hY : allLoc locB Y) (sX : size X ≤ 30) (sY : size Y ≤ 30) (hw : wr K14 1000000 X + wr K14 1000000 Y ≤ 300) : Nfa.cnt locB (altN X Y) 1 ≤ 2000 ∧ wp K14 20001 (altN X Y) ≤ 20000 := by
 have := deep_size X
 have := deep_size Y
 have h1 : deep (altN X Y) ≤ 31 := by simp only [altN, deep, deepL]; omega
 have h2 : size (altN X Y) ≤ 61 := by simp only [altN, size, sizeL]; omega
 have := (Nfa.cnt_ok locB (altN X Y) 1).1 ⟨by omega, by omega, alt_loc hX hY⟩
 refine ⟨by omega, wp_of ?_⟩
 rw [wr, if_neg (by decide), if_pos (by decide), wrL, wrL, wrL]; omega
theorem cat_comp {X Y : Nd} (hX : allLoc locB X) (hY : allLoc locB Y) (sX : size X ≤ 30) (sY : size Y ≤ 30) (hw : wr K14 1000000 X + wr K14 1000000 Y ≤ 300) : Nfa.cnt locB (catN X Y) 1 ≤ 2000 ∧ wp K14 20001 (catN X Y) ≤ 20000 := by
 have := deep_size X
 have := deep_size Y
 have h1 : deep (catN X Y) ≤ 31 := by simp only [catN, deep, deepL]; omega
 have h2 : size (catN X Y) ≤ 61 := by simp only [catN, size, sizeL]; omega
 have := (Nfa.cnt_ok locB (catN X Y) 1).1 ⟨by omega, by omega, cat_loc hX hY⟩
 refine ⟨by omega, wp_of ?_⟩
 rw [wr, if_pos (by decide), wrL, wrL, wrL]; omega
theorem ends_memR {l : List Int} {N : Nd} {a j : Nat} (hl : allLoc locB N) (ha : a ≤ l.length) : j ∈ endsR l N ((a : Nat) : Int) ↔ M K14 l N a j := by
 rw [endsR_in (by omega), Int.toNat_natCast, mem_idxs, marks_mem K14 l (loc_ok N hl) ha]
theorem ends_srt (l : List Int) (N : Nd) (a : Int) : (endsR l N a).Pairwise (· < ·) := by
 unfold endsR
 split
 · exact List.Pairwise.nil
 · exact idxs_srt _
theorem ends_le {l : List Int} {N : Nd} {a j : Nat} (hl : allLoc locB N) (ha : a ≤ l.length) (h : j ∈ endsR l N ((a : Nat) : Int)) : j ≤ l.length :=
 (M_range K14 l (loc_ok N hl) ha ((ends_memR hl ha).1 h)).2
theorem alt_ends {l : List Int} {X Y : Nd} {a : Nat} (hX : allLoc locB X) (hY : allLoc locB Y) (ha : a ≤ l.length) : endsR l (altN X Y) ((a : Nat) : Int) = idxs (mset (List.replicate (l.length + 1) false) (endsR l X ((a : Nat) : Int) ++ endsR l Y ((a : Nat) : Int))) := by
 refine sorted_ext (ends_srt _ _ _) (idxs_srt _) fun j => ?_
 rw [mem_idxs, mk_mset (fun k hk => by
  rw [List.length_replicate]
  rcases List.mem_append.1 hk with h | h
  · have := ends_le hX ha h; omega
  · have := ends_le hY ha h; omega), ends_memR (alt_loc hX hY) ha, List.mem_append, ends_memR hX ha, ends_memR hY ha, M_eq]
 have h0 : ¬ Nfa.mk (List.replicate (l.length + 1) false) j := mk_zeros l j
 constructor
 ·
  rintro (h | h | h | h | ⟨_, h⟩ | h)
  · exact absurd h.1 (by decide)
  · exact absurd h.1 (by decide)
  · exact absurd h.1 (by decide)
  · exact absurd h.1 (by decide)
  ·
   rw [MAlt, MAlt, MAlt] at h
   rcases h with h | h | h
   · exact .inr (.inl h)
   · exact .inr (.inr h)
   · exact h.elim
  · exact absurd h.1 (by decide)
 ·
  rintro (h | h | h)
  · exact absurd h h0
  · exact .inr (.inr (.inr (.inr (.inl ⟨rfl, by rw [MAlt]; exact .inl h⟩))))
  · exact .inr (.inr (.inr (.inr (.inl ⟨rfl, by rw [MAlt, MAlt]; exact .inr (.inl h)⟩))))
theorem cat_ends {l : List Int} {X Y : Nd} {a : Nat} (hX : allLoc locB X) (hY : allLoc locB Y) (ha : a ≤ l.length) : endsR l (catN X Y) ((a : Nat) : Int) = idxs (mset (List.replicate (l.length + 1) false) ((endsR l X ((a : Nat) : Int)).flatMap fun k => endsR l Y ((k : Nat) : Int))) := by
 refine sorted_ext (ends_srt _ _ _) (idxs_srt _) fun j => ?_
 rw [mem_idxs, mk_mset (fun k hk => by
  rw [List.length_replicate]
  obtain ⟨x, hx, hk⟩ := List.mem_flatMap.1 hk
  have := ends_le hY (ends_le hX ha hx) hk; omega), ends_memR (cat_loc hX hY) ha, List.mem_flatMap, M_eq]
 have h0 : ¬ Nfa.mk (List.replicate (l.length + 1) false) j := mk_zeros l j
 constructor
 ·
  rintro (h | h | h | ⟨_, h⟩ | h | h)
  · exact absurd h.1 (by decide)
  · exact absurd h.1 (by decide)
  · exact absurd h.1 (by decide)
  ·
   rw [MCat] at h
   obtain ⟨m, h1, h⟩ := h
   rw [MCat] at h
   obtain ⟨m2, h2, h⟩ := h
   rw [MCat] at h
   subst h
   have hm := (M_range K14 l (loc_ok X hX) ha h1).2
   exact .inr ⟨m, (ends_memR hX ha).2 h1, (ends_memR hY hm).2 h2⟩
  · exact absurd h.1 (by decide)
  · exact absurd h.1 (by decide)
 ·
  rintro (h | ⟨m, h1, h2⟩)
  · exact absurd h h0
  ·
   have hm := ends_le hX ha h1
   refine .inr (.inr (.inr (.inl ⟨rfl, ?_⟩)))
   rw [MCat]
   refine ⟨m, (ends_memR hX ha).1 h1, ?_⟩
   rw [MCat]
   refine ⟨j, (ends_memR hY hm).1 h2, ?_⟩
   rw [MCat]
theorem take_snoc {xs : List Nat} {i : Nat} (h : i < xs.length) : xs.take (i + 1) = xs.take i ++ [xs.getD i 0] := by
 rw [List.take_add_one, List.getElem?_eq_getElem h]
 simp [List.getD_eq_getElem?_getD, List.getElem?_eq_getElem h]
theorem mset_next {b z : List Bool} {ks : List Nat} {i : Nat} (h : b = mset z (ks.take i)) (hi : i < ks.length) : b.set (ks.getD i 0) true = mset z (ks.take (i + 1)) := by
 rw [take_snoc hi, mset_snoc, h]
theorem mset_flat {b c z : List Bool} {ks : List Nat} {f : Nat → List Nat} {i j : Nat} (h : b = mset z ((ks.take i).flatMap f)) (hi : i < ks.length) (hc : c = mset b ((f (ks.getD i 0)).take j)) (hj : j = (f (ks.getD i 0)).length) : c = mset z ((ks.take (i + 1)).flatMap f) := by
 subst hj
 rw [take_snoc hi, List.flatMap_append, mset_app, ← h, hc, List.take_length]; simp
theorem alt_fin {l : List Int} {X Y : Nd} {a i : Nat} {ks : List Nat} {b : List Bool} (hX : allLoc locB X) (hY : allLoc locB Y) (ha : a ≤ l.length) (hks : ks = endsR l X ((a : Nat) : Int) ++ endsR l Y ((a : Nat) : Int)) (hb : b = mset (List.replicate (l.length + 1) false) (ks.take i)) (hi : ks.length ≤ i) : endsR l (altN X Y) ((a : Nat) : Int) = idxs b := by
 rw [alt_ends hX hY ha, ← hks, hb, List.take_of_length_le hi]
theorem cat_fin {l : List Int} {X Y : Nd} {a i : Nat} {b : List Bool} (hX : allLoc locB X) (hY : allLoc locB Y) (ha : a ≤ l.length) (hb : b = mset (List.replicate (l.length + 1) false) (((endsR l X ((a : Nat) : Int)).take i).flatMap fun k => endsR l Y ((k : Nat) : Int))) (hi : (endsR l X ((a : Nat) : Int)).length ≤ i) : endsR l (catN X Y) ((a : Nat) : Int) = idxs b := by
 rw [cat_ends hX hY ha, hb, List.take_of_length_le hi]
theorem getD_mem {xs : List Nat} {i : Nat} (h : i < xs.length) : xs.getD i 0 ∈ xs := by
 rw [List.getD_eq_getElem?_getD, List.getElem?_eq_getElem h]; exact List.getElem_mem h
end Go.Vai
set_option maxRecDepth 100000
set_option maxHeartbeats 4000000
namespace Go.Proofs.YtiebldaihnbkmaaGreatDoor
open Go.Vai Go.Nfa Go.Utf
noncomputable section
theorem Ends_row (N : Nd) (S : List Sta) (s0 n : Nat) (sz : Int) (l : List Int) (at_ : Int) (hl : allLoc locB N) (hS : machine K14 N = (S, s0)) (hfs : FitS S) (hSn : S.length = n) (hSb : n ≤ 1000000) (hlb : l.length < 10000000) (ha0 : 0 ≤ at_) (ha1 : at_ ≤ (l.length : Int)) : FnD P ov 30 [.loc 0 0, .sl 1 l.length (l.map (D.int .i32)), .int .i64 at_] [.box [.sl 9 n (S.flatMap encSta), .int .i64 ((s0 : Nat) : Int), .int .i64 sz]] (fun r L1 => ∃ m, r = .row 4 0 m m ∧ m = (endsR l N at_).length ∧ L1 = [.box [.sl 9 n (S.flatMap encSta), .int .i64 ((s0 : Nat) : Int), .int .i64 sz], .dead, .dead, .dead, .row 1 m ((endsR l N at_).map natD)]) := by
 have htg := machine_tg K14 N
 have hT : Tgt S := by rw [hS] at htg; exact htg.1
 refine FnD.intro (by kernel_rfl) (fn := Tryz.f30) (by kernel_rfl) rfl (by kernel_rfl) fun M a0 g0 hg0 => ?_
 refine CD.seq ?_
 refine CD.region ?_
 refine OD.runE 1 [0, 1, 2] (E' := [(0, .loc 0 0), (1, .sl 1 l.length (l.map (D.int .i32))), (2, .int .i64 at_)]) (by kernel_rfl) ?_
 refine OD.nil ?_
 refine CD.seq ?_
 refine CD.seq ?_
 refine CD.region ?_
 refine OD.runE 7 [0, 1, 2, 15] (E' := [(0, .loc 0 0), (1, .sl 1 l.length (l.map (D.int .i32))), (2, .int .i64 at_), (15, .bool (decide ((at_ : Int) < 0)))]) (by kernel_rfl) ?_
 refine OD.ifP 15 rfl (fun h1 => ?_) (fun h1 => ?_)
 ·
  refine OD.runE 5 [0, 1, 2, 20] (E' := [(0, .loc 0 0), (1, .sl 1 l.length (l.map (D.int .i32))), (2, .int .i64 at_), (20, .bool true)]) (by kernel_rfl) ?_
  refine OD.nil ?_
  refine CD.condT rfl ?_
  refine CD.seq ?_
  refine CD.region ?_
  refine OD.runE 1 [6] (E' := [(6, .lit (.slice none 0 0))]) (by kernel_rfl) ?_
  refine OD.nil ?_
  refine CD.nilSl 6 1 rfl ?_
  refine CD.ret ?_
  exfalso; omega
 ·
  refine OD.runE 5 [0, 1, 2, 20] (E' := [(0, .loc 0 0), (1, .sl 1 l.length (l.map (D.int .i32))), (2, .int .i64 at_), (20, .bool (decide ((((l.length : Nat) : Int) : Int) < at_)))]) (by kernel_rfl) ?_
  refine OD.nil ?_
  refine CD.condP rfl (fun h2 => ?_) (fun h2 => ?_)
  ·
   refine CD.seq ?_
   refine CD.region ?_
   refine OD.runE 1 [6] (E' := [(6, .lit (.slice none 0 0))]) (by kernel_rfl) ?_
   refine OD.nil ?_
   refine CD.nilSl 6 1 rfl ?_
   refine CD.ret ?_
   exfalso; omega
  ·
   refine CD.skip ?_
   refine CD.seq ?_
   refine CD.region ?_
   obtain ⟨a, ha⟩ : ∃ a : Nat, at_ = (a : Int) := ⟨at_.toNat, by omega⟩
   refine OD.is 2 rfl (congrArg (D.int .i64) ha) ?_
   refine OD.runE 8 [0, 1, 21, 22, 23, 28] (E' := [(0, .loc 0 0), (1, .sl 1 l.length (l.map (D.int .i32))), (21, .loc 0 0), (22, .sl 1 l.length (l.map (D.int .i32))), (23, .int .i64 ((a : Nat) : Int)), (28, .int .i64 ((n : Nat) : Int))]) (by kernel_rfl) ?_
   refine OD.mkV (D.int .i64) 0 (n := n) (by_ := 8) (by kernel_rfl) rfl rfl (by omega) (by omega) ?_
   refine OD.run 3 [0, 1, 7] (E' := [(0, .loc 0 0), (1, .sl 1 l.length (l.map (D.int .i32))), (7, .loc 2 0)]) (L' := [.box [.sl 9 n (S.flatMap encSta), .int .i64 ((s0 : Nat) : Int), .int .i64 sz], .row 1 n ((List.replicate n 0).map (D.int .i64)), .box [.loc 0 0, .sl 1 l.length (l.map (D.int .i32)), .int .i64 ((a : Nat) : Int), .row 1 0 n n, .lit (.slice none 0 0)]]) (by kernel_rfl) ?_
   refine OD.nilRowB 2 4 1 rfl rfl ?_
   refine OD.runE 0 [0, 1, 7] (E' := [(0, .loc 0 0), (1, .sl 1 l.length (l.map (D.int .i32))), (7, .loc 2 0)]) (by kernel_rfl) ?_
   refine OD.nil ?_
   refine CD.seq ?_
   refine CD.region ?_
   refine OD.runE 5 [1, 7, 32, 36] (E' := [(1, .sl 1 l.length (l.map (D.int .i32))), (7, .loc 2 0), (32, .loc 2 0), (36, .int .i64 ((s0 : Nat) : Int))]) (by kernel_rfl) ?_
   refine OD.callO [2, 0, 1, 3] (ds := [.loc 2 0, .int .i64 ((s0 : Nat) : Int)]) (enters_ok S l a n 0 s0 ((s0 : Nat) : Int) sz (fun _ => False) (List.replicate n 0) [] hT hSn hSb (by omega) hlb (rep_fresh hSn) (by rw [hS] at htg; exact htg.2) (fun t v e => by have := List.eq_of_mem_replicate (List.mem_of_getElem? e); omega) (by have := unm_le a (List.replicate n 0); rw [List.length_replicate] at this; simp only [List.length_nil]; omega) rfl) rfl (by kernel_rfl) (by kernel_rfl) (by kernel_rfl) (by kernel_rfl) (by kernel_rfl) (fun r L1 hr => ?_)
   obtain ⟨seen1, now1, nn1, rfl, ⟨q1, q2, q3, q4, q5⟩, hnn1, hsl1, rfl⟩ := hr
   have hLI := LI.first (fun _ h => h) q1 q2 q4 q5 (by omega)
   refine OD.runE 0 [1, 7] (E' := [(1, .sl 1 l.length (l.map (D.int .i32))), (7, .loc 2 0)]) (by kernel_rfl) ?_
   refine OD.nil ?_
   refine CD.seq ?_
   refine CD.region ?_
   refine OD.runE 1 [1, 7, 8] (E' := [(1, .sl 1 l.length (l.map (D.int .i32))), (7, .loc 2 0), (8, .lit (.slice none 0 0))]) (by kernel_rfl) ?_
   refine OD.nilRow 8 1 rfl ?_
   refine OD.runE 0 [1, 7, 8] (E' := [(1, .sl 1 l.length (l.map (D.int .i32))), (7, .loc 2 0), (8, .row 4 0 0 0)]) (by kernel_rfl) ?_
   refine OD.nil ?_
   refine CD.seq ?_
   refine CD.block ?_
   refine CD.weak [1, 7, 8] 5 (E' := [(1, .sl 1 l.length (l.map (D.int .i32))), (7, .loc 2 0), (8, .row 4 0 0 0)]) (by kernel_rfl) (by simp [hg0]) (by kernel_rfl) ?_
   refine CD.loop (fun m σ => ∃ (p : Nat) (seen : List Int) (nw : List Nat) (nn : Nat) (out : List Nat) (mo : Nat), σ = ⟨[(1, .sl 1 l.length (l.map (D.int .i32))), (7, .loc 2 0), (8, .row 4 0 mo mo)], [.box [.sl 9 n (S.flatMap encSta), .int .i64 ((s0 : Nat) : Int), .int .i64 sz], .row 1 n (seen.map (D.int .i64)), .box [.loc 0 0, .sl 1 l.length (l.map (D.int .i32)), .int .i64 ((p : Nat) : Int), .row 1 0 n n, .row 3 0 nn nn], .row 1 nn (nw.map natD), .row 1 mo (out.map natD)]⟩ ∧ (LI S l s0 a p seen nw out) ∧ (nw.length = nn) ∧ (seen.length = n) ∧ (out.length = mo) ∧ (mo ≤ p) ∧ m = l.length - p) (fun m σ hI => ?_) _ ⟨a, seen1, now1, nn1, ([] : List Nat), 0, (by kernel_rfl), hLI, hnn1, hsl1, rfl, Nat.zero_le _, rfl⟩
   obtain ⟨p, seen, nw, nn, out, mo, e, hL, hnn, hsl, hm, hmp, hm⟩ := hI
   subst e hm
   have hpl := hL.hi
   have hnb := hL.nb
   refine CD.seq ?_
   refine CD.seq ?_
   refine CD.region ?_
   refine OD.runE 6 [1, 7, 8, 43] (E' := [(1, .sl 1 l.length (l.map (D.int .i32))), (7, .loc 2 0), (8, .row 4 0 mo mo), (43, .bool (decide ((0 : Int) < ((nn : Nat) : Int))))]) (by kernel_rfl) ?_
   refine OD.nil ?_
   refine CD.condP rfl (fun h3 => ?_) (fun h3 => ?_)
   ·
    refine CD.skip ?_
    refine CD.block ?_
    refine CD.seq ?_
    refine CD.seq ?_
    refine CD.region ?_
    refine OD.runE 1 [1, 7, 8, 44] (E' := [(1, .sl 1 l.length (l.map (D.int .i32))), (7, .loc 2 0), (8, .row 4 0 mo mo), (44, .loc 2 0)]) (by kernel_rfl) ?_
    refine OD.callO [2, 0, 1, 3] (ds := [.loc 2 0]) (ended_ok S l p n nn ((s0 : Nat) : Int) sz seen nw hSn hnn (fun s hs => plain_lt ((hL.now_mem s).1 hs).2) (by omega)) rfl (by kernel_rfl) (by kernel_rfl) (by kernel_rfl) (by kernel_rfl) (by kernel_rfl) (fun r L1 hr => ?_)
    obtain ⟨rfl, rfl⟩ := hr
    refine OD.runE 0 [1, 7, 8, 45] (E' := [(1, .sl 1 l.length (l.map (D.int .i32))), (7, .loc 2 0), (8, .row 4 0 mo mo), (45, .bool (nw.any (doneB S)))]) (by kernel_rfl) ?_
    refine OD.nil ?_
    refine CD.condB rfl (fun h4 => ?_) (fun h4 => ?_)
    ·
     refine CD.region ?_
     refine OD.runE 5 [1, 7, 46, 50] (E' := [(1, .sl 1 l.length (l.map (D.int .i32))), (7, .loc 2 0), (46, .row 4 0 mo mo), (50, .int .i64 ((p : Nat) : Int))]) (by kernel_rfl) ?_
     refine OD.bsl (e := 1) (cs := [.int .i64 ((p : Nat) : Int)]) rfl (by kernel_rfl) ?_
     refine OD.runE 0 [1, 7, 46, 51] (E' := [(1, .sl 1 l.length (l.map (D.int .i32))), (7, .loc 2 0), (46, .row 4 0 mo mo), (51, .sl 1 1 [.int .i64 ((p : Nat) : Int)])]) (by kernel_rfl) ?_
     refine OD.appV (f := natD) (xs := out) (vs := [p]) rfl (by kernel_rfl) rfl rfl rfl rfl (by first | omega | (simp only [List.length_set, List.length_replicate, List.length_append, List.length_singleton, List.length_cons, List.length_nil]; omega)) (by decide) (by omega) ?_
     refine OD.runE 1 [1, 7, 8] (E' := [(1, .sl 1 l.length (l.map (D.int .i32))), (7, .loc 2 0), (8, .row 4 0 (mo + 1) (mo + 1))]) (by kernel_rfl) ?_
     refine OD.nil ?_
     refine CD.seq ?_
     refine CD.seq ?_
     refine CD.region ?_
     refine OD.runE 7 [1, 7, 8, 59] (E' := [(1, .sl 1 l.length (l.map (D.int .i32))), (7, .loc 2 0), (8, .row 4 0 (mo + 1) (mo + 1)), (59, .bool (decide ((((p : Nat) : Int) : Int) = ((l.length : Nat) : Int))))]) (by kernel_rfl) ?_
     refine OD.nil ?_
     refine CD.condP rfl (fun h5 => ?_) (fun h5 => ?_)
     ·
      refine CD.exit ?_
      refine CD.seq ?_
      refine CD.region ?_
      refine OD.runE 2 [6] (E' := [(6, .row 4 0 (mo + 1) (mo + 1))]) (by kernel_rfl) ?_
      refine OD.nil ?_
      refine CD.kill 1 (Nat.le_of_ble_eq_true (by kernel_rfl)) ?_
      refine CD.kill 2 (Nat.le_of_ble_eq_true (by kernel_rfl)) ?_
      refine CD.kill 3 (Nat.le_of_ble_eq_true (by kernel_rfl)) ?_
      refine CD.ret ?_
      first | refine resP_r ?_ | refine resP_n ?_ | (dsimp only; first | refine resP_r ?_ | refine resP_n ?_)
      refine retO 5 (r := .row 4 0 (mo + 1) (mo + 1)) (L' := [.box [.sl 9 n (S.flatMap encSta), .int .i64 ((s0 : Nat) : Int), .int .i64 sz], .dead, .dead, .dead, .row 1 (mo + 1) ((out ++ [p]).map natD)]) (by kernel_rfl) ?_ ?_ (by kernel_rfl) (by kernel_rfl) ?_
      · exact Nat.le_of_ble_eq_true (by kernel_rfl)
      · exact Nat.le_of_ble_eq_true (by kernel_rfl)
      · exact (by have he : (out ++ [p]) = endsR l N at_ := (by rw [ha]; have h1 := hL.out_srt; have h2 := hL.fin_end (by omega); rw [outOf, if_pos h4] at h1 h2; exact ends_eq hl hS (by omega) h1 h2); exact ⟨_, rfl, (show List.length _ = _ from (by rw [List.length_append, hm]; rfl)).symm.trans (congrArg List.length he), by rw [he]⟩)
     ·
      refine CD.skip ?_
      refine CD.region ?_
      refine OD.runE 1 [1, 7, 8, 60] (E' := [(1, .sl 1 l.length (l.map (D.int .i32))), (7, .loc 2 0), (8, .row 4 0 (mo + 1) (mo + 1)), (60, .loc 2 0)]) (by kernel_rfl) ?_
      refine OD.callO [2, 0, 1, 3] (ds := [.loc 2 0]) (step_ok S l p n nn ((s0 : Nat) : Int) sz seen nw hT hfs hSn hSb (by omega) hlb hnn hsl (fun s hs => plain_lt ((hL.now_mem s).1 hs).2) (by omega) hL.le) rfl (by kernel_rfl) (by kernel_rfl) (by kernel_rfl) (by kernel_rfl) (by kernel_rfl) (fun r L1 hr => ?_)
      obtain ⟨seen3, nw3, nn3, rfl, hsi, hnn3, hsl3, rfl⟩ := hr
      have hL3 := hL.step (by omega) hsi
      rw [outOf, if_pos h4] at hL3
      refine OD.runE 0 [1, 7, 8] (E' := [(1, .sl 1 l.length (l.map (D.int .i32))), (7, .loc 2 0), (8, .row 4 0 (mo + 1) (mo + 1))]) (by kernel_rfl) ?_
      refine OD.nil ?_
      exact ⟨_, by omega, p + 1, seen3, nw3, nn3, (out ++ [p]), mo + 1, (by kernel_rfl), hL3, hnn3, hsl3, by first | exact hm | (rw [List.length_append, hm]; rfl), by omega, rfl⟩
    ·
     refine CD.skip ?_
     refine CD.seq ?_
     refine CD.seq ?_
     refine CD.region ?_
     refine OD.runE 7 [1, 7, 8, 59] (E' := [(1, .sl 1 l.length (l.map (D.int .i32))), (7, .loc 2 0), (8, .row 4 0 mo mo), (59, .bool (decide ((((p : Nat) : Int) : Int) = ((l.length : Nat) : Int))))]) (by kernel_rfl) ?_
     refine OD.nil ?_
     refine CD.condP rfl (fun h6 => ?_) (fun h6 => ?_)
     ·
      refine CD.exit ?_
      refine CD.seq ?_
      refine CD.region ?_
      refine OD.runE 2 [6] (E' := [(6, .row 4 0 mo mo)]) (by kernel_rfl) ?_
      refine OD.nil ?_
      refine CD.kill 1 (Nat.le_of_ble_eq_true (by kernel_rfl)) ?_
      refine CD.kill 2 (Nat.le_of_ble_eq_true (by kernel_rfl)) ?_
      refine CD.kill 3 (Nat.le_of_ble_eq_true (by kernel_rfl)) ?_
      refine CD.ret ?_
      first | refine resP_r ?_ | refine resP_n ?_ | (dsimp only; first | refine resP_r ?_ | refine resP_n ?_)
      refine retO 5 (r := .row 4 0 mo mo) (L' := [.box [.sl 9 n (S.flatMap encSta), .int .i64 ((s0 : Nat) : Int), .int .i64 sz], .dead, .dead, .dead, .row 1 mo (out.map natD)]) (by kernel_rfl) ?_ ?_ (by kernel_rfl) (by kernel_rfl) ?_
      · exact Nat.le_of_ble_eq_true (by kernel_rfl)
      · exact Nat.le_of_ble_eq_true (by kernel_rfl)
      · exact (by have he : out = endsR l N at_ := (by rw [ha]; have h1 := hL.out_srt; have h2 := hL.fin_end (by omega); rw [outOf, if_neg (by rw [h4]; decide)] at h1 h2; exact ends_eq hl hS (by omega) h1 h2); exact ⟨_, rfl, (show List.length _ = _ from hm).symm.trans (congrArg List.length he), by rw [he]⟩)
     ·
      refine CD.skip ?_
      refine CD.region ?_
      refine OD.runE 1 [1, 7, 8, 60] (E' := [(1, .sl 1 l.length (l.map (D.int .i32))), (7, .loc 2 0), (8, .row 4 0 mo mo), (60, .loc 2 0)]) (by kernel_rfl) ?_
      refine OD.callO [2, 0, 1, 3] (ds := [.loc 2 0]) (step_ok S l p n nn ((s0 : Nat) : Int) sz seen nw hT hfs hSn hSb (by omega) hlb hnn hsl (fun s hs => plain_lt ((hL.now_mem s).1 hs).2) (by omega) hL.le) rfl (by kernel_rfl) (by kernel_rfl) (by kernel_rfl) (by kernel_rfl) (by kernel_rfl) (fun r L1 hr => ?_)
      obtain ⟨seen3, nw3, nn3, rfl, hsi, hnn3, hsl3, rfl⟩ := hr
      have hL3 := hL.step (by omega) hsi
      rw [outOf, if_neg (by rw [h4]; decide)] at hL3
      refine OD.runE 0 [1, 7, 8] (E' := [(1, .sl 1 l.length (l.map (D.int .i32))), (7, .loc 2 0), (8, .row 4 0 mo mo)]) (by kernel_rfl) ?_
      refine OD.nil ?_
      exact ⟨_, by omega, p + 1, seen3, nw3, nn3, out, mo, (by kernel_rfl), hL3, hnn3, hsl3, by first | exact hm | (rw [List.length_append, hm]; rfl), by omega, rfl⟩
   ·
    refine CD.exit ?_
    refine CD.seq ?_
    refine CD.region ?_
    refine OD.runE 2 [6] (E' := [(6, .row 4 0 mo mo)]) (by kernel_rfl) ?_
    refine OD.nil ?_
    refine CD.kill 1 (Nat.le_of_ble_eq_true (by kernel_rfl)) ?_
    refine CD.kill 2 (Nat.le_of_ble_eq_true (by kernel_rfl)) ?_
    refine CD.kill 3 (Nat.le_of_ble_eq_true (by kernel_rfl)) ?_
    refine CD.ret ?_
    first | refine resP_r ?_ | refine resP_n ?_ | (dsimp only; first | refine resP_r ?_ | refine resP_n ?_)
    refine retO 5 (r := .row 4 0 mo mo) (L' := [.box [.sl 9 n (S.flatMap encSta), .int .i64 ((s0 : Nat) : Int), .int .i64 sz], .dead, .dead, .dead, .row 1 mo (out.map natD)]) (by kernel_rfl) ?_ ?_ (by kernel_rfl) (by kernel_rfl) ?_
    · exact Nat.le_of_ble_eq_true (by kernel_rfl)
    · exact Nat.le_of_ble_eq_true (by kernel_rfl)
    · exact (by have he : out = endsR l N at_ := (by rw [ha]; exact ends_eq hl hS (by omega) hL.srt (by have hz : nw = [] := List.length_eq_zero_iff.1 (by omega); rw [hz] at hL; exact hL.fin_none)); exact ⟨_, rfl, (show List.length _ = _ from hm).symm.trans (congrArg List.length he), by rw [he]⟩)
end
end Go.Proofs.YtiebldaihnbkmaaGreatDoor

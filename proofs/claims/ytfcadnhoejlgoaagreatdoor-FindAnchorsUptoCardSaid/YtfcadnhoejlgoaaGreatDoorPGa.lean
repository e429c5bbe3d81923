/-
  What is proved here: a pattern that is read from a text: its size, its parts; where a sign is in a row (part PGa). how the reading of a whole pattern ends (part PGb). No conditions but those that the theorems state.
-/
import Derived.Test.YtfcadnhoejlgoaaGreatDoorPA
import Derived.Test.YtfcadnhoejlgoaaGreatDoorNQ
import Derived.Test.YtfcadnhoejlgoaaGreatDoorUA
import Derived.Lib.ValidU
import Derived.Test.YtfcadnhoejlgoaaGreatDoorPEa
set_option linter.unusedVariables false
set_option linter.unusedSimpArgs false
namespace Go.Vai
open Go.Nfa Go.Utf
noncomputable section
theorem FnD.known1 {P : Program} {ov : Ov} {f : FuncId} {fn : List Value → Heap → Option (Value × Heap)} {s : ByteArray} {b : Bool} (hov : ov f = some fn) (hg : ∀ h, fn [.string s] h = some (.bool b, h)) : PureD P ov f [.str s] (.bool b) := by
 intro M g a vs ok old hlen nd hcl hobj hargs
 cases hargs with
 | cons h t =>
  cases t
  cases h
  refine Fn.known hov hg ⟨.bool b, [], g, CR.bool, hlen, Nat.le_refl _, nd, fun k hk => ⟨(hcl k hk).1, (hcl k hk).2, .inl hk⟩, hobj, Keep.refl _ _, ok, fun i b k cs e _ => e, fun i cs _ e => ⟨cs, e⟩, rfl, rfl⟩
def setsB (n : Nd) : Bool := decide (n.st.length ≤ 1000001)
def Sm (X : Rdr) : Prop := ∀ s b, s.length ≤ 1000000 → allLoc setsB (X s b).1
theorem setL_len : ∀ (f : Nat) (l : List (Int × Int)) (s : List Int) (b : Bool), (setL f l s b).1.length ≤ l.length + f := by
 intro f
 induction f with
 | zero => intro l s b; exact Nat.le_refl _
 | succ f ih =>
  intro l s b
  unfold setL; split
  ·
   have := ih (l ++ [((memM s b).1, (hiM (memM s b)).1)]) (hiM (memM s b)).2.1 ((hiM (memM s b)).2.2 || decide ((hiM (memM s b)).1 < (memM s b).1))
   rw [List.length_append, List.length_singleton] at this; omega
  · simp
theorem sm_mk {k : Int} {l : List (Int × Int)} {no : Bool} {ks : List Nd} {a b : Int} (h : l.length ≤ 1000001) (hk : allLocL setsB ks) : allLoc setsB (.mk k l no ks a b) := by
 rw [allLoc]; exact ⟨decide_eq_true h, hk⟩
theorem atom_sm {alt : Rdr} (h : Sm alt) : Sm (atomM alt) := by
 intro s b hs
 have t := (tk_le s b).length_le
 unfold atomM
 dsimp only
 split
 · exact h _ _ (by omega)
 ·
  split
  · exact sm_mk (by simp) trivial
  ·
   split
   · exact sm_mk (by simp) trivial
   ·
    split
    · exact sm_mk (by simp) trivial
    ·
     split
     · exact sm_mk (by simp) trivial
     ·
      split
      ·
       unfold setM
       refine sm_mk ?_ trivial
       have h1 := setL_len ((Nfa.isR 94 (tkM s b).2.1).length + 1) [] (Nfa.isR 94 (tkM s b).2.1) (tkM s b).2.2
       have h2 := (is_le 94 (tkM s b).2.1).length_le
       simp only [List.length_nil] at h1
       omega
      · exact sm_mk (by simp) trivial
theorem piece_sm {atom : Rdr} (h : Sm atom) : Sm (pieceM atom) := by
 intro s b hs
 unfold pieceM
 dsimp only
 split
 · exact sm_mk (by simp) ⟨h s b hs, trivial⟩
 · exact h s b hs
theorem allLocL_snoc {loc : Nd → Bool} : ∀ {ks : List Nd} {n : Nd}, allLocL loc ks → allLoc loc n → allLocL loc (ks ++ [n])
 | [], n, _, h => ⟨h, trivial⟩
 | k :: ks, n, h, hn => ⟨h.1, allLocL_snoc h.2 hn⟩
theorem rowL_sm {piece : Rdr} (hl : Shr piece) (h : Sm piece) : ∀ (f : Nat) (ks : List Nd) (s : List Int) (b : Bool), s.length ≤ 1000000 → allLocL setsB ks → allLocL setsB (rowL piece f ks s b).1 := by
 intro f
 induction f with
 | zero => intro ks s b _ hk; exact hk
 | succ f ih =>
  intro ks s b hs hk
  unfold rowL; split
  · exact ih _ _ _ (Nat.le_trans (hl s b).length_le hs) (allLocL_snoc hk (h s b hs))
  · exact hk
theorem of_sm {k : Int} {ks : List Nd} (h : allLocL setsB ks) : allLoc setsB (ofN k ks) := by
 unfold ofN
 split
 ·
  cases ks with
  | nil => simp at *
  | cons n ns => exact h.1
 · exact sm_mk (by simp) h
theorem row_sm {piece : Rdr} (hl : Shr piece) (h : Sm piece) : Sm (rowM piece) := by
 intro s b hs
 unfold rowM
 dsimp only
 split
 · exact sm_mk (by simp) trivial
 · exact of_sm (rowL_sm hl h _ _ _ _ hs trivial)
theorem altL_sm {row : Rdr} (hl : Shr row) (h : Sm row) : ∀ (f : Nat) (ks : List Nd) (s : List Int) (b : Bool), s.length ≤ 1000000 → allLocL setsB ks → allLocL setsB (altL row f ks s b).1 := by
 intro f
 induction f with
 | zero => intro ks s b _ hk; exact hk
 | succ f ih =>
  intro ks s b hs hk
  have ht := (tl_le s).length_le
  unfold altL; split
  · exact ih _ _ _ (Nat.le_trans (hl _ b).length_le (by omega)) (allLocL_snoc hk (h _ b (by omega)))
  · exact hk
theorem alt_sm {row : Rdr} (hl : Shr row) (h : Sm row) : Sm (altM row) := by
 intro s b hs
 unfold altM
 exact of_sm (altL_sm hl h _ _ _ _ (Nat.le_trans (hl s b).length_le hs) ⟨h s b hs, trivial⟩)
theorem altF_sm : ∀ f, Sm (altF f)
 | 0 => fun s b _ => sm_mk (by simp) trivial
 | f + 1 => alt_sm (rowF_le f) (row_sm (pieceF_le f) (piece_sm (atom_sm (altF_sm f))))
mutual
theorem fit_of : ∀ (n : Nd), allLoc setsB n → allLoc locB n → size n < 1000000 → fit n
 | .mk k set no kids mn mx, h1, h2, h3 => by
  have hs : set.length ≤ 1000001 := of_decide_eq_true h1.1
  have hk := length_size (k := k) (set := set) (no := no) (kids := kids) (mn := mn) (mx := mx)
  have hl := h2.1
  simp only [locB, bareB, oneB, Bool.and_eq_true, Bool.or_eq_true, decide_eq_true_eq] at hl
  rw [size] at h3
  rw [fit]
  refine ⟨by omega, by rw [size] at hk; omega, ?_, ?_, fitL_of kids h1.2 h2.2 (by omega)⟩
  ·
   rcases hl.1.2 with e | e
   ·
    subst e
    have := hl.2
    simp only [Int.reduceEq, reduceIte, or_self, Bool.and_eq_true, Bool.or_eq_true, decide_eq_true_eq] at this
    omega
   · omega
  ·
   rcases hl.1.2 with e | e
   ·
    subst e
    have := hl.2
    simp only [Int.reduceEq, reduceIte, or_self, Bool.and_eq_true, Bool.or_eq_true, decide_eq_true_eq] at this
    omega
   · omega
theorem fitL_of : ∀ (ns : List Nd), allLocL setsB ns → allLocL locB ns → sizeL ns < 1000000 → fitL ns
 | [], _, _, _ => trivial
 | n :: ns, h1, h2, h3 => by
  rw [sizeL] at h3
  exact ⟨fit_of n h1.1 h2.1 (by omega), fitL_of ns h1.2 h2.2 (by omega)⟩
end
def parseM (s : ByteArray) : Option Nd :=
 if 60 < s.size ∨ Lib.validD s.data.toList = false ∨ (65533 : Int) ∈ allM (bytesOf s) then none
 else if (altF ((allM (bytesOf s)).length + 1) (allM (bytesOf s)) false).2.2 = true ∨ 0 < (altF ((allM (bytesOf s)).length + 1) (allM (bytesOf s)) false).2.1.length then none
 else some (altF ((allM (bytesOf s)).length + 1) (allM (bytesOf s)) false).1
theorem okS_all {s : ByteArray} (h : ¬ (65533 : Int) ∈ allM (bytesOf s)) : okS (allM (bytesOf s)) := by
 intro r hr
 have h1 := uall_ok (bytesOf_lt s) r hr
 have h2 : ¬ r = 65533 := fun e => h (e ▸ hr)
 simp only [signB, validB, Bool.and_eq_true, Bool.or_eq_true, decide_eq_true_eq]
 unfold isSign at h1
 exact ⟨h1, h2⟩
theorem run_len : ∀ (bs : List Nat) {q : Ust}, okQ q → (∀ b ∈ bs, b < 256) → (runM q bs).1.length ≤ 2 * bs.length := by
 intro bs
 induction bs with
 | nil => intro q _ _; simp [runM]
 | cons b bs ih =>
  intro q h hb
  have p := uput_ok h (hb b (by simp))
  have i := ih p.1 fun x hx => hb x (by simp [hx])
  simp only [runM, List.length_append, List.length_cons]
  omega
theorem all_len (s : ByteArray) : (allM (bytesOf s)).length ≤ 2 * s.size + 1 := by
 have h := run_len (bytesOf s) (okQ0 0 0 0 0) (bytesOf_lt s)
 have h2 := end_len (runM ⟨0, 0, 0, 0, 0⟩ (bytesOf s)).2
 have h3 : (bytesOf s).length = s.size := by simp [bytesOf]
 unfold allM
 rw [List.length_append]
 omega
theorem parse_good {s : ByteArray} {N : Nd} (h : parseM s = some N) : fit N ∧ allLoc locB N ∧ size N ≤ 241 := by
 unfold parseM at h
 split at h
 · cases h
 ·
  rename_i h1
  split at h
  · cases h
  ·
   rename_i h2
   cases h
   have hl := all_len s
   have hb : (altF ((allM (bytesOf s)).length + 1) (allM (bytesOf s)) false).2.2 = false := by
    cases e : (altF ((allM (bytesOf s)).length + 1) (allM (bytesOf s)) false).2.2 with
    | true => exact absurd (.inl e) h2
    | false => rfl
   have g := altF_good _ _ _ (okS_all fun e => h1 (.inr (.inr e))) hb
   have hs : s.size ≤ 60 := by
    by_cases e : 60 < s.size
    · exact absurd (.inl e) h1
    · omega
   have l2 := (mayR_iff _).1 g.2.1
   refine ⟨fit_of _ (altF_sm _ _ _ (by omega)) l2 (by omega), l2, by omega⟩
def ixF : List Int → Int → Nat → Int
 | [], _, _ => -1
 | x :: xs, v, i => if v = x then (i : Nat) else ixF xs v (i + 1)
theorem ixF_mem : ∀ (l : List Int) (v : Int) (i : Nat), decide (0 ≤ ixF l v i) = decide (v ∈ l) := by
 intro l
 induction l with
 | nil => intro v i; simp [ixF]
 | cons x xs ih =>
  intro v i
  unfold ixF
  split
  · rename_i e; subst e; simp
  ·
   rename_i e
   rw [ih]
   congr 1
   simp [e]
end
end Go.Vai
namespace Go.Vai
open Go.Nfa Go.Utf
theorem parse_n {s : ByteArray} (h : 60 < s.size ∨ Lib.validD s.data.toList = false ∨ (65533 : Int) ∈ allM (bytesOf s)) : parseM s = none := by rw [parseM, if_pos h]
theorem parse_h {s : ByteArray} {l : List Int} (hl : l = allM (bytesOf s)) (h1 : ¬ (60 : Int) < ((s.size : Nat) : Int)) (h2 : Lib.validD s.data.toList = true) (h3 : ¬ (65533 : Int) ∈ l) : ¬ (60 < s.size ∨ Lib.validD s.data.toList = false ∨ (65533 : Int) ∈ allM (bytesOf s)) := by
 subst hl
 rintro (h | h | h)
 · omega
 · rw [h2] at h; cases h
 · exact h3 h
theorem parse_b {s : ByteArray} {l : List Int} (hl : l = allM (bytesOf s)) (h : (altF (l.length + 1) l false).2.2 = true ∨ 0 < (altF (l.length + 1) l false).2.1.length) : parseM s = none := by
 subst hl
 unfold parseM; split
 · rfl
 · first | rfl | rw [if_pos h]
theorem parse_s {s : ByteArray} {l : List Int} (hl : l = allM (bytesOf s)) (hn : ¬ (60 < s.size ∨ Lib.validD s.data.toList = false ∨ (65533 : Int) ∈ allM (bytesOf s))) (h : (altF (l.length + 1) l false).2.2 = false) (h2 : ¬ 0 < (altF (l.length + 1) l false).2.1.length) : parseM s = some (altF (l.length + 1) l false).1 := by
 subst hl
 rw [parseM, if_neg hn, if_neg (by rw [h]; simp only [Bool.false_eq_true, false_or]; exact h2)]
def parseR (s : ByteArray) (r : D) : Prop := (parseM s = none ∧ r = .tup [.agg (celN zeroN), .int .i64 5]) ∨ ∃ N, parseM s = some N ∧ r = .tup [.agg (celN N), .int .i64 0]
theorem cnt_of {N : Nd} (h1 : deep N ≤ 14) (h2 : size N ≤ 241) (h3 : allLoc locB N) : Nfa.cnt locB N 1 ≤ 2000 := by
 have := (Nfa.cnt_ok locB N 1).1 ⟨by omega, by omega, h3⟩
 omega
end Go.Vai
namespace Go.Proofs.YtfcadnhoejlgoaaGreatDoor
open Go.Vai Go.Nfa Go.Utf
theorem valid_ok (s : ByteArray) (hs : s.size ≤ 1000000) : PureD P ov 52 [.str s] (.bool (Lib.validD s.data.toList)) := FnD.known1 (fn := vsFn) rfl (fun _ => by simp only [vsFn]; rw [decide_eq_true (by omega)])
theorem utfAll_ex (s : ByteArray) (hs : s.size ≤ 1000000) : FnD P ov 51 [.str s] [] (fun r L1 => (fun r => ∃ l, l = allM (bytesOf s) ∧ r = .sl 1 l.length (l.map (D.int .i32))) r ∧ L1 = []) :=
 (utfAll_ok s hs).mono fun d L' h => ⟨⟨_, rfl, h.1⟩, h.2⟩
theorem short_ex (s : ByteArray) (c : Nat) : FnD P ov 26 [.str s, .int .i64 ((c : Nat) : Int)] [] (fun r L1 => (fun r => ∃ t : ByteArray, t = s.extract 0 (min s.size c) ∧ t.size ≤ c ∧ r = .str t) r ∧ L1 = []) :=
 (Short_ok s c).mono fun d L' h => ⟨⟨_, rfl, by rw [ByteArray.size_extract]; omega, h.1⟩, h.2⟩
end Go.Proofs.YtfcadnhoejlgoaaGreatDoor

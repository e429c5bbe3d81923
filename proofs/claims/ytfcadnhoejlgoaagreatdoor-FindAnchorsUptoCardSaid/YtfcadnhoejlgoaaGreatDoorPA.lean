/-
  What is proved here: patterns told by their parts; the reader's own state as an object; how its functions go on (part PA). how a row of pieces, an alternation and a set end (part PAb). No conditions but those that the theorems state.
-/
import Derived.Test.YtfcadnhoejlgoaaGreatDoorPurePar1
import Derived.Test.YtfcadnhoejlgoaaGreatDoorRM
import Derived.Test.YtfcadnhoejlgoaaGreatDoorNQ
set_option linter.unusedVariables false
set_option linter.unusedSimpArgs false
namespace Go.Nfa
def Nd.kd : Nd → Int | .mk k _ _ _ _ _ => k
def Nd.st : Nd → List (Int × Int) | .mk _ l _ _ _ _ => l
def Nd.no : Nd → Bool | .mk _ _ b _ _ _ => b
def Nd.ks : Nd → List Nd | .mk _ _ _ ks _ _ => ks
def Nd.mi : Nd → Int | .mk _ _ _ _ z _ => z
def Nd.ma : Nd → Int | .mk _ _ _ _ _ z => z
end Go.Nfa
namespace Go.Vai
open Go.Nfa
noncomputable section
def celN (x : Nd) : List D := [.int .i64 x.kd, .sl 2 x.st.length (x.st.flatMap encR), .bool x.no, .sl 6 x.ks.length (encNs x.ks), .int .i64 x.mi, .int .i64 x.ma]
theorem celN_eq (x : Nd) : celN x = encN x := by cases x; rfl
theorem flatN (x : Nd) : celN x = [x].flatMap encN := by rw [celN_eq, List.flatMap_cons, List.flatMap_nil, List.append_nil]
abbrev pbox (s : List Int) (b : Bool) : Ob := .box [.sl 1 s.length (s.map (D.int .i32)), .bool b]
def postN (x : Rd Nd) (r : D) (L1 : List Ob) : Prop := r = .agg (celN x.1) ∧ L1 = [pbox x.2.1 x.2.2]
def postI (k : IntKind) (x : Rd Int) (r : D) (L1 : List Ob) : Prop := r = .int k x.1 ∧ L1 = [pbox x.2.1 x.2.2]
def postR (x : Rd (Int × Int × Bool)) (r : D) (L1 : List Ob) : Prop := r = .tup [.int .i64 x.1.1, .int .i64 x.1.2.1, .bool x.1.2.2] ∧ L1 = [pbox x.2.1 x.2.2]
theorem nx0 {s : List Int} (h : ((s.length : Nat) : Int) = 0) : (-1 : Int) = nx s := by
 have : s = [] := List.length_eq_zero_iff.1 (by omega)
 subst this; rfl
theorem nx1 {s : List Int} (h : ¬ ((s.length : Nat) : Int) = 0) : s.getD 0 0 = nx s := by
 cases s with
 | nil => simp at h
 | cons r s => rfl
theorem nx_len {s : List Int} (h : 0 ≤ nx s) : 1 ≤ s.length := by have := nx_pos h; omega
theorem tl_sl {s : List Int} : D.sl 1 (s.length - 1) (((s.map (D.int .i32)).drop (1 * 1)).take ((s.length - 1) * 1)) = .sl 1 s.tail.length (s.tail.map (D.int .i32)) := by
 rw [List.take_of_length_le (by simp)]
 cases s <;> simp
theorem one_of {ks : List Nd} (h : ((ks.length : Nat) : Int) = 1) : ∃ x, ks = [x] := by
 cases ks with
 | nil => simp at h
 | cons x ks => exact ⟨x, by rw [List.length_eq_zero_iff.1 (show ks.length = 0 by simp at h; omega)]⟩
theorem of_ne {k : Int} {ks : List Nd} {n : Nat} (hn : ks.length = n) (h : ¬ ((n : Nat) : Int) = 1) : D.agg [.int .i64 k, .sl 2 0 [], .bool false, .sl 6 n (ks.flatMap encN), .int .i64 0, .int .i64 0] = .agg (celN (ofN k ks)) := by
 subst hn
 rw [ofN, if_neg (by omega), celN, ← encNs_eq]; rfl
theorem piece_rep {n : Nd} {a b : Int} : D.agg [.int .i64 5, .sl 2 0 [], .bool false, .sl 6 1 (celN n), .int .i64 a, .int .i64 b] = .agg (celN (.mk 5 [] false [n] a b)) := by
 rw [flatN, ← encNs_eq]; rfl
theorem set_of {l : List (Int × Int)} {b : Bool} {n : Nat} (hn : l.length = n) : D.agg [.int .i64 2, .sl 2 n (l.flatMap encR), .bool b, .sl 6 0 [], .int .i64 0, .int .i64 0] = .agg (celN (.mk 2 l b [] 0 0)) := by
 subst hn; rfl
theorem rowL_go {piece : Rdr} {f : Nat} {ks : List Nd} {s : List Int} {b : Bool} (h : b = false ∧ 0 ≤ nx s ∧ ¬ nx s = 124 ∧ ¬ nx s = 41) (hf : b = false → s.length ≤ f) : rowL piece f ks s b = rowL piece (f - 1) (ks ++ [(piece s b).1]) (piece s b).2.1 (piece s b).2.2 := by
 have h1 := nx_len h.2.1
 have h2 := hf h.1
 obtain ⟨g, rfl⟩ : ∃ g, f = g + 1 := ⟨f - 1, by omega⟩
 rw [rowL, if_pos h]; rfl
theorem rowL_stop {piece : Rdr} {f : Nat} {ks : List Nd} {s : List Int} {b : Bool} (h : ¬ (b = false ∧ 0 ≤ nx s ∧ ¬ nx s = 124 ∧ ¬ nx s = 41)) : rowL piece f ks s b = (ks, s, b) := by
 cases f with
 | zero => rfl
 | succ f => rw [rowL, if_neg h]
theorem altL_go {row : Rdr} {f : Nat} {ks : List Nd} {s : List Int} {b : Bool} (h0 : b = false) (h : nx s = 124) (hf : b = false → s.length ≤ f) : altL row f ks s b = altL row (f - 1) (ks ++ [(row s.tail b).1]) (row s.tail b).2.1 (row s.tail b).2.2 := by
 have h1 := nx_len (s := s) (by omega)
 have h2 := hf h0
 obtain ⟨g, rfl⟩ : ∃ g, f = g + 1 := ⟨f - 1, by omega⟩
 rw [altL, if_pos ⟨h0, h⟩]; rfl
theorem altL_stop {row : Rdr} {f : Nat} {ks : List Nd} {s : List Int} {b : Bool} (h : ¬ (b = false ∧ nx s = 124)) : altL row f ks s b = (ks, s, b) := by
 cases f with
 | zero => rfl
 | succ f => rw [altL, if_neg h]
theorem setL_go {f : Nat} {l : List (Int × Int)} {s : List Int} {b : Bool} (h : b = false ∧ ¬ nx s = 93) (hf : b = false → s.length < f) :
  setL f l s b = setL (f - 1) (l ++ [((memM s b).1, (hiM (memM s b)).1)]) (hiM (memM s b)).2.1 ((hiM (memM s b)).2.2 || decide ((hiM (memM s b)).1 < (memM s b).1)) := by
 have h2 := hf h.1
 obtain ⟨g, rfl⟩ : ∃ g, f = g + 1 := ⟨f - 1, by omega⟩
 rw [setL, if_pos h]; rfl
theorem setL_stop {f : Nat} {l : List (Int × Int)} {s : List Int} {b : Bool} (h : ¬ (b = false ∧ ¬ nx s = 93)) : setL f l s b = (l, s, b) := by
 cases f with
 | zero => rfl
 | succ f => rw [setL, if_neg h]
theorem set_dec {f : Nat} {s : List Int} {b : Bool} (hf : b = false → s.length < f) (h : b = false) : ((hiM (memM s b)).2.2 || decide ((hiM (memM s b)).1 < (memM s b).1)) = false → (hiM (memM s b)).2.1.length < f - 1 := by
 intro e
 simp only [Bool.or_eq_false_iff] at e
 have h1 := mem_lt (hi_bad e.1)
 have h2 := (hi_le (memM s b)).length_le
 have := hf h
 omega
end
end Go.Vai
namespace Go.Vai
open Go.Nfa
theorem row_nil {piece : Rdr} {s s1 : List Int} {b b1 : Bool} {f n : Nat} {ks : List Nd} (hr : rowL piece s.length [] s b = rowL piece f ks s1 b1) (h : ¬ (b1 = false ∧ 0 ≤ nx s1 ∧ ¬ nx s1 = 124 ∧ ¬ nx s1 = 41)) (hn : ks.length = n) (h0 : n = 0) :
  postN (rowM piece s b) (.agg (celN zeroN)) [pbox s1 true] := by
 rw [rowL_stop h] at hr
 rw [rowM]; simp only [hr]
 rw [if_pos (by omega)]; exact ⟨rfl, rfl⟩
theorem row_some {piece : Rdr} {s s1 : List Int} {b b1 : Bool} {f n : Nat} {ks : List Nd} (hr : rowL piece s.length [] s b = rowL piece f ks s1 b1) (h : ¬ (b1 = false ∧ 0 ≤ nx s1 ∧ ¬ nx s1 = 124 ∧ ¬ nx s1 = 41)) (hn : ks.length = n) (h0 : ¬ n = 0) :
  postN (rowM piece s b) (.agg (celN (ofN 3 ks))) [pbox s1 b1] := by
 rw [rowL_stop h] at hr
 rw [rowM]; simp only [hr]
 rw [if_neg (by omega)]; exact ⟨rfl, rfl⟩
theorem alt_done {row : Rdr} {s s1 : List Int} {b b1 : Bool} {f n : Nat} {ks : List Nd} (hr : altL row s.length [(row s b).1] (row s b).2.1 (row s b).2.2 = altL row f ks s1 b1) (h : ¬ (b1 = false ∧ nx s1 = 124)) (hn : ks.length = n) :
  postN (altM row s b) (.agg (celN (ofN 4 ks))) [pbox s1 b1] := by
 rw [altL_stop h] at hr
 rw [altM]; simp only [hr]; exact ⟨rfl, rfl⟩
theorem piece_no {atom : Rdr} {s : List Int} {b : Bool} (h : (repM (atom s b).2.1 (atom s b).2.2).1.2.2 = false) : postN (pieceM atom s b) (.agg (celN (atom s b).1)) [pbox (repM (atom s b).2.1 (atom s b).2.2).2.1 (repM (atom s b).2.1 (atom s b).2.2).2.2] := by
 rw [pieceM]; simp only [h]; exact ⟨rfl, rfl⟩
theorem piece_yes {atom : Rdr} {s : List Int} {b bb : Bool} (h : (repM (atom s b).2.1 (atom s b).2.2).1.2.2 = true) (hb : bb = ((repM (atom s b).2.1 (atom s b).2.2).2.2 || decide (nx s = 94 ∨ nx s = 36))) :
  postN (pieceM atom s b) (.agg [.int .i64 5, .sl 2 0 [], .bool false, .sl 6 1 (celN (atom s b).1), .int .i64 (repM (atom s b).2.1 (atom s b).2.2).1.1, .int .i64 (repM (atom s b).2.1 (atom s b).2.2).1.2.1]) [pbox (repM (atom s b).2.1 (atom s b).2.2).2.1 bb] := by
 subst hb
 rw [pieceM]; simp only [h, if_true]; exact ⟨piece_rep, rfl⟩
theorem tk_one {s : List Int} {b : Bool} (h : (tkM s b).1 = 40) : (tkM s b).2.1.length + 1 ≤ s.length := by
 have e : (tkM s b).1 = nx s := by unfold tkM; split <;> rfl
 exact tk_lt (by omega) b
theorem tk_sign {s : List Int} {b : Bool} (hs : okS s) (h : (tkM s b).2.2 = false) : signB (tkM s b).1 = true := by
 have := tk_good h
 rw [this.2.2.1]; exact hs.nx this.1
theorem set_done {s s1 s2 : List Int} {b b1 b2 : Bool} {f n : Nat} {l : List (Int × Int)} (hr : setL ((isR 94 s).length + 1) [] (isR 94 s) b = setL f l s1 b1) (h : ¬ (b1 = false ∧ ¬ nx s1 = 93)) (hn : l.length = n)
  (h1 : (mustM 93 s1 b1).1 = s2) (h2 : ((mustM 93 s1 b1).2 || decide (n = 0)) = b2) : postN (setM s b) (.agg [.int .i64 2, .sl 2 n (l.flatMap encR), .bool (decide (nx s = 94)), .sl 6 0 [], .int .i64 0, .int .i64 0]) [pbox s2 b2] := by
 rw [setL_stop h] at hr
 rw [setM]; simp only [hr]
 subst h1 h2 hn
 exact ⟨set_of rfl, rfl⟩
end Go.Vai

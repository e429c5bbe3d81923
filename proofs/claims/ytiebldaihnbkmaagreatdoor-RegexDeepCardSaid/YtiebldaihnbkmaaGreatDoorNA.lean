/-
  What is proved here: patterns as data; what the machine's functions tell of single nodes (part NA). No conditions. What is proved here: small laws of marks, as the walks ask for them (part NF). No conditions.
-/
import Derived.Test.YtiebldaihnbkmaaGreatDoorRD
import Derived.Test.YtiebldaihnbkmaaGreatDoorPureNfa5
import Derived.Test.YtiebldaihnbkmaaGreatDoorRI
import Derived.Test.YtiebldaihnbkmaaGreatDoorPureNfa3
set_option linter.unusedVariables false
set_option linter.unusedSimpArgs false
namespace Go.Vai
open Go.Nfa
noncomputable section
def encR (r : Int × Int) : List D := [.int .i32 r.1, .int .i32 r.2]
theorem encR_len (r : Int × Int) : (encR r).length = 2 := rfl
mutual
def encN : Nd → List D
 | .mk k set no kids mn mx => [.int .i64 k, .sl 2 set.length (set.flatMap encR), .bool no, .sl 6 kids.length (encNs kids), .int .i64 mn, .int .i64 mx]
def encNs : List Nd → List D
 | [] => []
 | n :: ns => encN n ++ encNs ns
end
theorem encN_len (n : Nd) : (encN n).length = 6 := by cases n; simp [encN]
theorem encNs_eq : ∀ ns : List Nd, encNs ns = ns.flatMap encN
 | [] => rfl
 | n :: ns => by rw [encNs, encNs_eq ns, List.flatMap_cons]
theorem rPart {set : List (Int × Int)} {i : Nat} {r : Int × Int} (h : set[i]? = some r) : ((set.flatMap encR).drop (((i : Nat) : Int).toNat * 2)).take 2 = [.int .i32 r.1, .int .i32 r.2] := by
 rw [Int.toNat_natCast]; exact flat_part encR_len h
theorem nPart {kids : List Nd} {i : Nat} {k : Int} {set : List (Int × Int)} {no : Bool} {ks : List Nd} {mn mx : Int} (h : kids[i]? = some (.mk k set no ks mn mx)) :
  ((encNs kids).drop (((i : Nat) : Int).toNat * 6)).take 6 = [.int .i64 k, .sl 2 set.length (set.flatMap encR), .bool no, .sl 6 ks.length (encNs ks), .int .i64 mn, .int .i64 mx] := by
 rw [Int.toNat_natCast, encNs_eq]
 have := flat_part encN_len h
 rw [this, encN]
theorem nth {α : Type} {l : List α} {i : Nat} (h : i < l.length) : ∃ x, l[i]? = some x ∧ l.drop i = x :: l.drop (i + 1) := ⟨l[i], List.getElem?_eq_getElem h, List.drop_eq_getElem_cons h⟩
def validB (r : Int) : Bool := (decide (0 ≤ r) && decide (r < 55296) || decide (57343 < r) && decide (r ≤ 1114111))
def signB (r : Int) : Bool := validB r && decide (¬ r = 65533)
def rangedB (r : Int × Int) : Bool := signB r.1 && signB r.2 && decide (r.1 ≤ r.2)
def bareB : Nd → Bool
 | .mk k set no kids mn mx => (decide (k = 2) || decide (((set.length : Nat) : Int) = 0) && !no) && (decide (k = 5) || decide (mn = 0) && decide (mx = 0))
def oneB : Nd → Bool
 | .mk k set no kids mn mx =>
  if k = 2 then decide (((kids.length : Nat) : Int) = 0) && (decide ((0 : Int) < ((set.length : Nat) : Int)) || no) && set.all rangedB
  else if k = 3 ∨ k = 4 then decide ((2 : Int) ≤ ((kids.length : Nat) : Int))
  else if k = 5 then decide (((kids.length : Nat) : Int) = 1) && decide (0 ≤ mn) && decide (mn ≤ 9) && decide (mx ≤ 9) && (decide (mx = -1) || decide (mn ≤ mx))
  else if k = 6 ∨ k = 7 then decide (((kids.length : Nat) : Int) = 0)
  else false
def locB (n : Nd) : Bool := bareB n && oneB n
mutual
/-- A pattern whose rows and numbers are of a machine's size. -/
def fit : Nd → Prop
 | .mk _ set _ kids mn mx => set.length < 4611686018427387904 ∧ kids.length < 4611686018427387904 ∧ (-9223372036854775808 ≤ mn ∧ mn < 9223372036854775808) ∧ (-9223372036854775808 ≤ mx ∧ mx < 9223372036854775808) ∧ fitL kids
def fitL : List Nd → Prop
 | [] => True
 | n :: ns => fit n ∧ fitL ns
end
theorem fitL_get : ∀ {ns : List Nd} {i : Nat} {n : Nd}, fitL ns → ns[i]? = some n → fit n := by
 intro ns
 induction ns with
 | nil => intro i n _ h; simp at h
 | cons x ns ih =>
  intro i n h e
  rw [fitL] at h
  cases i with
  | zero => simp at e; subst e; exact h.1
  | succ i => exact ih h.2 (by simpa using e)
theorem sizeL_get : ∀ {ns : List Nd} {i : Nat} {n : Nd}, ns[i]? = some n → size n ≤ sizeL ns := by
 intro ns
 induction ns with
 | nil => intro i n h; simp at h
 | cons x ns ih =>
  intro i n e
  rw [sizeL]
  cases i with
  | zero => simp at e; subst e; omega
  | succ i => have := ih (i := i) (n := n) (by simpa using e); omega
theorem fit_kid {k : Int} {set : List (Int × Int)} {no : Bool} {kids : List Nd} {mn mx : Int} {i : Nat} {n : Nd} (h : fit (.mk k set no kids mn mx)) (e : kids[i]? = some n) : fit n := by
 rw [fit] at h; exact fitL_get h.2.2.2.2 e
theorem size_kid {k : Int} {set : List (Int × Int)} {no : Bool} {kids : List Nd} {mn mx : Int} {i m : Nat} {n : Nd} (h : size (.mk k set no kids mn mx) ≤ m + 1) (e : kids[i]? = some n) : size n ≤ m := by
 rw [size] at h; have := sizeL_get e; omega
mutual
def mayR : Nd → Bool
 | .mk k set no kids mn mx => mayRL kids && locB (.mk k set no kids mn mx)
def mayRL : List Nd → Bool
 | [] => true
 | n :: ns => mayR n && mayRL ns
end
theorem length_sizeL : ∀ ns : List Nd, ns.length ≤ sizeL ns
 | [] => by simp [sizeL]
 | n :: ns => by have := length_sizeL ns; have := size_pos n; rw [sizeL, List.length_cons]; omega
theorem length_size {k : Int} {set : List (Int × Int)} {no : Bool} {kids : List Nd} {mn mx : Int} : kids.length < size (.mk k set no kids mn mx) := by
 have := length_sizeL kids; rw [size]; omega
end
end Go.Vai
set_option linter.unusedVariables false
namespace Go.Vai
open Go.Nfa
noncomputable section
end
end Go.Vai

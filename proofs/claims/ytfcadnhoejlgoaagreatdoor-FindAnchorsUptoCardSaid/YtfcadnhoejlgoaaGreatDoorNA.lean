/-
  What is proved here: patterns as data; what the machine's functions tell of single nodes (part NA). small laws of marks, as the walks ask for them (part NF). No conditions but those that the theorems state.
-/
import Derived.Test.YtfcadnhoejlgoaaGreatDoorRD
import Derived.Test.YtfcadnhoejlgoaaGreatDoorPureNfa5
import Derived.Test.YtfcadnhoejlgoaaGreatDoorRI
import Derived.Test.YtfcadnhoejlgoaaGreatDoorPureNfa3
set_option linter.unusedVariables false
set_option linter.unusedSimpArgs false
namespace Go.Vai
open Go.Nfa
noncomputable section
def encR (r : Int × Int) : List D := [.int .i32 r.1, .int .i32 r.2]
theorem encR_len (r : Int × Int) : (encR r).length = 2 := rfl
mutual
def encN : Nd → List D
 | .mk k set no kids mn mx => [.int .i64 k, .sl 2 set.length (set.flatMap encR), .bool no, .sl 6 kids.length (encNs kids), .int .i64 mn, .int .i64 mx]
def encNs : List Nd → List D
 | [] => []
 | n :: ns => encN n ++ encNs ns
end
theorem encN_len (n : Nd) : (encN n).length = 6 := by cases n; simp [encN]
theorem encNs_eq : ∀ ns : List Nd, encNs ns = ns.flatMap encN
 | [] => rfl
 | n :: ns => by rw [encNs, encNs_eq ns, List.flatMap_cons]
theorem rPart {set : List (Int × Int)} {i : Nat} {r : Int × Int} (h : set[i]? = some r) : ((set.flatMap encR).drop (((i : Nat) : Int).toNat * 2)).take 2 = [.int .i32 r.1, .int .i32 r.2] := by
 rw [Int.toNat_natCast]; exact flat_part encR_len h
theorem nPart {kids : List Nd} {i : Nat} {k : Int} {set : List (Int × Int)} {no : Bool} {ks : List Nd} {mn mx : Int} (h : kids[i]? = some (.mk k set no ks mn mx)) :
  ((encNs kids).drop (((i : Nat) : Int).toNat * 6)).take 6 = [.int .i64 k, .sl 2 set.length (set.flatMap encR), .bool no, .sl 6 ks.length (encNs ks), .int .i64 mn, .int .i64 mx] := by
 rw [Int.toNat_natCast, encNs_eq]
 have := flat_part encN_len h
 rw [this, encN]
theorem nth {α : Type} {l : List α} {i : Nat} (h : i < l.length) : ∃ x, l[i]? = some x ∧ l.drop i = x :: l.drop (i + 1) := ⟨l[i], List.getElem?_eq_getElem h, List.drop_eq_getElem_cons h⟩
def validB (r : Int) : Bool := (decide (0 ≤ r) && decide (r < 55296) || decide (57343 < r) && decide (r ≤ 1114111))
def signB (r : Int) : Bool := validB r && decide (¬ r = 65533)
def rangedB (r : Int × Int) : Bool := signB r.1 && signB r.2 && decide (r.1 ≤ r.2)
def bareB : Nd → Bool
 | .mk k set no kids mn mx => (decide (k = 2) || decide (((set.length : Nat) : Int) = 0) && !no) && (decide (k = 5) || decide (mn = 0) && decide (mx = 0))
def oneB : Nd → Bool
 | .mk k set no kids mn mx =>
  if k = 2 then decide (((kids.length : Nat) : Int) = 0) && (decide ((0 : Int) < ((set.length : Nat) : Int)) || no) && set.all rangedB
  else if k = 3 ∨ k = 4 then decide ((2 : Int) ≤ ((kids.length : Nat) : Int))
  else if k = 5 then decide (((kids.length : Nat) : Int) = 1) && decide (0 ≤ mn) && decide (mn ≤ 9) && decide (mx ≤ 9) && (decide (mx = -1) || decide (mn ≤ mx))
  else if k = 6 ∨ k = 7 then decide (((kids.length : Nat) : Int) = 0)
  else false
def locB (n : Nd) : Bool := bareB n && oneB n
def badF : List (Int × Int) → Nat → Int
 | [], _ => -1
 | r :: rs, i => if rangedB r = true then badF rs (i + 1) else (i : Nat)
theorem badF_ge : ∀ (l : List (Int × Int)) (i : Nat), (0 ≤ badF l i) ↔ l.all rangedB = false := by
 intro l
 induction l with
 | nil => intro i; simp [badF]
 | cons r rs ih =>
  intro i
  unfold badF
  cases h : rangedB r with
  | true => rw [if_pos rfl, ih, List.all_cons, h, Bool.true_and]
  | false => rw [if_neg (by simp), List.all_cons, h, Bool.false_and]; simp
theorem badF_all {l : List (Int × Int)} : D.bool (decide (0 ≤ badF l 0)) = .bool (!l.all rangedB) := by
 cases h : l.all rangedB with
 | true => rw [decide_eq_false (by rw [badF_ge, h]; simp)]; rfl
 | false => rw [decide_eq_true (by rw [badF_ge, h])]; rfl
mutual
/-- A pattern whose rows and numbers are of a machine's size. -/
def fit : Nd → Prop
 | .mk _ set _ kids mn mx => set.length < 4611686018427387904 ∧ kids.length < 4611686018427387904 ∧ (-9223372036854775808 ≤ mn ∧ mn < 9223372036854775808) ∧ (-9223372036854775808 ≤ mx ∧ mx < 9223372036854775808) ∧ fitL kids
def fitL : List Nd → Prop
 | [] => True
 | n :: ns => fit n ∧ fitL ns
end
theorem fitL_get : ∀ {ns : List Nd} {i : Nat} {n : Nd}, fitL ns → ns[i]? = some n → fit n := by
 intro ns
 induction ns with
 | nil => intro i n _ h; simp at h
 | cons x ns ih =>
  intro i n h e
  rw [fitL] at h
  cases i with
  | zero => simp at e; subst e; exact h.1
  | succ i => exact ih h.2 (by simpa using e)
theorem sizeL_get : ∀ {ns : List Nd} {i : Nat} {n : Nd}, ns[i]? = some n → size n ≤ sizeL ns := by
 intro ns
 induction ns with
 | nil => intro i n h; simp at h
 | cons x ns ih =>
  intro i n e
  rw [sizeL]
  cases i with
  | zero => simp at e; subst e; omega
  | succ i => have := ih (i := i) (n := n) (by simpa using e); omega
theorem fit_kid {k : Int} {set : List (Int × Int)} {no : Bool} {kids : List Nd} {mn mx : Int} {i : Nat} {n : Nd} (h : fit (.mk k set no kids mn mx)) (e : kids[i]? = some n) : fit n := by
 rw [fit] at h; exact fitL_get h.2.2.2.2 e
theorem size_kid {k : Int} {set : List (Int × Int)} {no : Bool} {kids : List Nd} {mn mx : Int} {i m : Nat} {n : Nd} (h : size (.mk k set no kids mn mx) ≤ m + 1) (e : kids[i]? = some n) : size n ≤ m := by
 rw [size] at h; have := sizeL_get e; omega
theorem cnt_mk (loc : Nd → Bool) (k : Int) (set : List (Int × Int)) (no : Bool) (kids : List Nd) (mn mx : Int) (d : Nat) : Nfa.cnt loc (.mk k set no kids mn mx) d = if 40 < d ∨ loc (.mk k set no kids mn mx) = false then 2001 else cntL loc kids d 1 := by rw [Nfa.cnt]
theorem cntL_le (loc : Nd → Bool) : ∀ (ks : List Nd) (d all : Nat), all ≤ 2001 → cntL loc ks d all ≤ 2001 := by
 intro ks
 induction ks with
 | nil => intro d all h; rw [cntL]; exact h
 | cons k ks ih =>
  intro d all h
  rw [cntL]; split
  · exact Nat.le_refl _
  · exact ih _ _ (by omega)
theorem cnt_le (loc : Nd → Bool) (n : Nd) (d : Nat) : Nfa.cnt loc n d ≤ 2001 := by
 cases n; rw [Nfa.cnt]; split
 · exact Nat.le_refl _
 · exact cntL_le _ _ _ _ (by omega)
def K14 : Kinds := ⟨2, 3, 4, 5, 6, 7, by decide⟩
mutual
def mayR : Nd → Bool
 | .mk k set no kids mn mx => mayRL kids && locB (.mk k set no kids mn mx)
def mayRL : List Nd → Bool
 | [] => true
 | n :: ns => mayR n && mayRL ns
end
theorem allLoc_kid {k : Int} {set : List (Int × Int)} {no : Bool} {kids : List Nd} {mn mx : Int} {i : Nat} {n : Nd} (h : allLoc locB (.mk k set no kids mn mx)) (e : kids[i]? = some n) : allLoc locB n := by
 rw [allLoc] at h
 have key : ∀ {ns : List Nd} {i : Nat}, allLocL locB ns → ns[i]? = some n → allLoc locB n := by
  intro ns
  induction ns with
  | nil => intro i _ e; simp at e
  | cons x ns ih =>
   intro i h e
   rw [allLocL] at h
   cases i with
   | zero => simp at e; subst e; exact h.1
   | succ i => exact ih h.2 (by simpa using e)
 exact key h.2 e
theorem length_sizeL : ∀ ns : List Nd, ns.length ≤ sizeL ns
 | [] => by simp [sizeL]
 | n :: ns => by have := length_sizeL ns; have := size_pos n; rw [sizeL, List.length_cons]; omega
theorem length_size {k : Int} {set : List (Int × Int)} {no : Bool} {kids : List Nd} {mn mx : Int} : kids.length < size (.mk k set no kids mn mx) := by
 have := length_sizeL kids; rw [size]; omega
theorem size_mk (k : Int) (set : List (Int × Int)) (no : Bool) (kids : List Nd) (mn mx : Int) : size (.mk k set no kids mn mx) = 1 + sizeL kids := by rw [size]
theorem deep_mk (k : Int) (set : List (Int × Int)) (no : Bool) (kids : List Nd) (mn mx : Int) : deep (.mk k set no kids mn mx) = deepL kids + 1 := by rw [deep]
mutual
theorem deep_size : ∀ n : Nd, deep n ≤ size n
 | .mk k set no kids mn mx => by have := deepL_size kids; rw [deep, size]; omega
theorem deepL_size : ∀ ns : List Nd, deepL ns ≤ sizeL ns
 | [] => by simp [deepL]
 | n :: ns => by have := deep_size n; have := deepL_size ns; rw [deepL, sizeL]; omega
end
theorem wp_le (K : Kinds) (c : Nat) (n : Nd) : wp K c n ≤ c := by cases n; rw [wp]; omega
theorem mul_bd {a b A B : Int} (h0 : 0 ≤ a) (h1 : a ≤ A) (h2 : 0 ≤ b) (h3 : b ≤ B) : 0 ≤ a * b ∧ a * b ≤ A * B :=
 ⟨Int.mul_nonneg h0 h2, Int.mul_le_mul h1 h3 h2 (Int.le_trans h0 h1)⟩
theorem loc_rep {set : List (Int × Int)} {no : Bool} {kids : List Nd} {mn mx : Int} (h : allLoc locB (.mk 5 set no kids mn mx)) : 0 ≤ mn ∧ mn ≤ 9 ∧ mx ≤ 9 ∧ (mx = -1 ∨ mn ≤ mx) := by
 rw [allLoc] at h
 have h := h.1
 simp [locB, oneB] at h
 omega
theorem loc_kind {k : Int} {set : List (Int × Int)} {no : Bool} {kids : List Nd} {mn mx : Int} (h : allLoc locB (.mk k set no kids mn mx)) : k = 2 ∨ k = 3 ∨ k = 4 ∨ k = 5 ∨ k = 6 ∨ k = 7 := by
 rw [allLoc] at h
 have h := h.1
 simp only [locB, oneB, Bool.and_eq_true] at h
 have h := h.2
 split at h
 · omega
 ·
  split at h
  · omega
  ·
   split at h
   · omega
   ·
    split at h
    · omega
    · cases h
theorem wp_mk (K : Kinds) (c : Nat) (k : Int) (set : List (Int × Int)) (no : Bool) (kids : List Nd) (mn mx : Int) : wp K c (.mk k set no kids mn mx) = min (if k = K.cat then wpL K c kids 0 else if k = K.alt then wpL K c kids 0 + 1 else if k = K.rep then wpL K c kids 0 * (if mx < 0 then mn + 1 else mx).toNat + 1 else 1) c := by rw [wp]
theorem wr_mk (K : Kinds) (c : Nat) (k : Int) (set : List (Int × Int)) (no : Bool) (kids : List Nd) (mn mx : Int) : wr K c (.mk k set no kids mn mx) = if k = K.cat then wrL K c kids 0 else if k = K.alt then wrL K c kids 0 + 1 else if k = K.rep then min (wrL K c kids 0 * (if mx < 0 then mn + 1 else mx).toNat + 1) c else 1 := by rw [wr]
theorem wpL_nil (K : Kinds) (c w : Nat) : wpL K c [] w = w := by rw [wpL]
theorem wrL_nil (K : Kinds) (c w : Nat) : wrL K c [] w = w := by rw [wrL]
theorem wrL_le (K : Kinds) (c : Nat) : ∀ (ks : List Nd) (w : Nat), w ≤ c → wrL K c ks w ≤ c := by
 intro ks
 induction ks with
 | nil => intro w h; rw [wrL]; exact h
 | cons k ks ih => intro w h; rw [wrL]; exact ih _ (Nat.min_le_right _ _)
theorem wr_le (K : Kinds) (c : Nat) (n : Nd) (hc : 1 ≤ c) : wr K c n ≤ c + 1 := by
 cases n; rename_i k set no kids mn mx
 rw [wr]
 have := wrL_le K c kids 0 (Nat.zero_le _)
 split
 · omega
 ·
  split
  · omega
  · split <;> omega
theorem toNat_mul {w : Nat} {t : Int} (h : 0 ≤ t) : ((w * t.toNat : Nat) : Int) = (w : Int) * t := by rw [Int.natCast_mul, Int.toNat_of_nonneg h]
theorem inSet_cons {x : Int × Int} {xs : List (Int × Int)} {no : Bool} {r : Int} : inSet (x :: xs) no r = if (decide (x.1 ≤ r) && decide (r ≤ x.2)) = true then !no else inSet xs no r := by
 unfold inSet
 rw [List.any_cons]
 cases h : (decide (x.1 ≤ r) && decide (r ≤ x.2)) with
 | true => rw [Bool.true_or, if_pos rfl, if_pos rfl]
 | false => rw [Bool.false_or, if_neg (by simp : ¬ false = true)]
theorem wr_rep {k : Int} {set : List (Int × Int)} {no : Bool} {kids : List Nd} {mn mx t C : Int} {w c : Nat} (hk : k = 5) (hr : wrL K14 c kids 0 = w) (ht : t = if mx < 0 then mn + 1 else mx) (h0 : 0 ≤ t) (hc : C = (c : Int)) :
  D.int .i64 (min ((w : Int) * t + 1) C) = .int .i64 ((wr K14 c (.mk k set no kids mn mx) : Nat) : Int) := by
 subst hk hc
 congr 1
 rw [wr_mk, hr]
 have e := toNat_mul (w := w) (t := t) h0
 rw [← ht]
 simp only [K14, reduceIte, Int.reduceEq]
 omega
theorem wr_cat {k : Int} {set : List (Int × Int)} {no : Bool} {kids : List Nd} {mn mx : Int} {w c : Nat} (hk : k = 3) (hr : wrL K14 c kids 0 = w) : D.int .i64 (w : Int) = .int .i64 ((wr K14 c (.mk k set no kids mn mx) : Nat) : Int) := by
 subst hk; congr 1; rw [wr_mk, hr]; simp only [K14, reduceIte]
theorem wr_alt {k : Int} {set : List (Int × Int)} {no : Bool} {kids : List Nd} {mn mx : Int} {w c : Nat} (hk : k = 4) (hr : wrL K14 c kids 0 = w) : D.int .i64 ((w + 1 : Nat) : Int) = .int .i64 ((wr K14 c (.mk k set no kids mn mx) : Nat) : Int) := by
 subst hk; congr 1; rw [wr_mk, hr]; simp only [K14, reduceIte, Int.reduceEq]
theorem wr_one {k : Int} {set : List (Int × Int)} {no : Bool} {kids : List Nd} {mn mx : Int} {c : Nat} (h3 : ¬ k = 3) (h4 : ¬ k = 4) (h5 : ¬ k = 5) : D.int .i64 1 = .int .i64 ((wr K14 c (.mk k set no kids mn mx) : Nat) : Int) := by
 congr 1; rw [wr_mk]; simp only [K14, h3, h4, h5, reduceIte]; rfl
end
end Go.Vai
namespace Go.Vai
open Go.Nfa
noncomputable section
theorem loc_rep1 {set : List (Int × Int)} {no : Bool} {kids : List Nd} {mn mx : Int} (h : allLoc locB (.mk 5 set no kids mn mx)) : ∃ x, kids[0]? = some x := by
 rw [allLoc] at h
 have h := h.1
 simp [locB, oneB] at h
 exact ⟨kids[0]'(by omega), List.getElem?_eq_getElem (by omega)⟩
mutual
theorem loc_ok : ∀ n : Nd, allLoc locB n → Ok K14 n
 | .mk k set no kids mn mx, h => by
  have hk := loc_kind h
  have h0 := h
  rw [allLoc] at h
  have hL := loc_okL kids h.2
  have h1 := h.1
  simp only [locB, oneB, Bool.and_eq_true] at h1
  have h1 := h1.2
  unfold Ok
  simp only [K14]
  rcases hk with rfl | rfl | rfl | rfl | rfl | rfl
  · exact .inl rfl
  · exact .inr (.inr (.inr (.inl ⟨rfl, hL⟩)))
  ·
   refine .inr (.inr (.inr (.inr (.inl ⟨rfl, ?_, hL⟩))))
   rintro rfl
   simp at h1
  ·
   obtain ⟨q1, q2, q3, q4⟩ := loc_rep h0
   obtain ⟨x, hx⟩ := loc_rep1 h0
   refine .inr (.inr (.inr (.inr (.inr ⟨rfl, q1, ?_, ?_, hL⟩))))
   · omega
   · rintro rfl; simp at hx
  · exact .inr (.inl rfl)
  · exact .inr (.inr (.inl rfl))
theorem loc_okL : ∀ ns : List Nd, allLocL locB ns → OkL K14 ns
 | [], _ => by unfold OkL; trivial
 | n :: ns, h => by rw [allLocL] at h; unfold OkL; exact ⟨loc_ok n h.1, loc_okL ns h.2⟩
end
theorem fromF_len {l : List Int} {n : Nd} {b : List Bool} (h : allLoc locB n) (hb : b.length = l.length + 1) : (fromF K14 l n b).length = l.length + 1 := (from_ok K14 l n (loc_ok n h) b hb).1
def idxs (b : List Bool) : List Nat := (List.range b.length).filter fun j => b.getD j false
def endsR (l : List Int) (n : Nd) (at_ : Int) : List Nat := if at_ < 0 ∨ (l.length : Int) < at_ then [] else idxs (fromF K14 l n (only l at_.toNat))
theorem endsR_out {l : List Int} {n : Nd} {at_ : Int} (h : at_ < 0 ∨ (l.length : Int) < at_) : endsR l n at_ = [] := if_pos h
theorem endsR_in {l : List Int} {n : Nd} {at_ : Int} (h : ¬ (at_ < 0 ∨ (l.length : Int) < at_)) : endsR l n at_ = idxs (fromF K14 l n (only l at_.toNat)) := if_neg h
theorem only_len {l : List Int} {i : Nat} : (only l i).length = l.length + 1 := by simp [only, zeros]
end
end Go.Vai

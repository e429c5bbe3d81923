/-
  What is proved here: a machine's states as data; how many states a pattern needs; small laws of the way machines are built (part NI). small laws of the way machines are built, as the walks ask for them (part NK). what a pattern's making into a machine answers, in plain terms (part NN). what the search's parts come to, in plain terms (part NO). No conditions but those that the theorems state.
-/
import Derived.Test.YtfcadnhoejlgoaaGreatDoorNA
import Derived.Test.YtfcadnhoejlgoaaGreatDoorPureNfa3
set_option linter.unusedVariables false
set_option linter.unusedSimpArgs false
namespace Go.Vai
open Go.Nfa
noncomputable section
abbrev nilD : D := .lit (.slice none 0 0)
def encSta : Sta → List D
 | .takes set no x => [.int .i64 1, .int .i64 2, .sl 2 set.length (set.flatMap encR), .bool no, .sl 6 0 [], .int .i64 0, .int .i64 0, .int .i64 (x : Int), .int .i64 0]
 | .splits x y => [.int .i64 2, .int .i64 0, nilD, .bool false, nilD, .int .i64 0, .int .i64 0, .int .i64 (x : Int), .int .i64 (y : Int)]
 | .begins x => [.int .i64 3, .int .i64 0, nilD, .bool false, nilD, .int .i64 0, .int .i64 0, .int .i64 (x : Int), .int .i64 0]
 | .ends x => [.int .i64 4, .int .i64 0, nilD, .bool false, nilD, .int .i64 0, .int .i64 0, .int .i64 (x : Int), .int .i64 0]
 | .done => [.int .i64 5, .int .i64 0, nilD, .bool false, nilD, .int .i64 0, .int .i64 0, .int .i64 0, .int .i64 0]
theorem encSta_len (s : Sta) : (encSta s).length = 9 := by cases s <;> rfl
theorem takes_eq {k : Int} {set : List (Int × Int)} {no : Bool} {kids : List Nd} {mn mx : Int} (hl : allLoc locB (.mk k set no kids mn mx)) (hk : k = 2) :
  D.agg [.int .i64 k, .sl 2 set.length (set.flatMap encR), .bool no, .sl 6 kids.length (encNs kids), .int .i64 mn, .int .i64 mx] = .agg [.int .i64 2, .sl 2 set.length (set.flatMap encR), .bool no, .sl 6 0 [], .int .i64 0, .int .i64 0] := by
 subst hk
 rw [allLoc] at hl
 have h := hl.1
 simp [locB, bareB, oneB] at h
 obtain ⟨⟨rfl, rfl⟩, ⟨rfl, _⟩, _⟩ := h
 rfl
theorem build14_mk (kind : Int) (set : List (Int × Int)) (no : Bool) (kids : List Nd) (mn mx : Int) (L : List Sta) (next : Nat) : build K14 (.mk kind set no kids mn mx) L next =
  if kind = 2 then (L ++ [.takes set no next], L.length)
  else if kind = 6 then (L ++ [.begins next], L.length)
  else if kind = 7 then (L ++ [.ends next], L.length)
  else if kind = 3 then buildCat K14 kids L next
  else if kind = 4 then buildAlt K14 kids L next
  else if kind = 5 then buildRep K14 kids mn mx L next
  else (L, next) := by rw [build]; rfl
theorem wt14_mk (kind : Int) (set : List (Int × Int)) (no : Bool) (kids : List Nd) (mn mx : Int) : wt K14 (.mk kind set no kids mn mx) =
  if kind = 3 then wtL K14 kids else if kind = 4 then wtL K14 kids + 1 else if kind = 5 then wtL K14 kids * (if mx < 0 then mn + 1 else mx).toNat + 1 else 1 := by rw [wt]; rfl
theorem fold_len {f : List Sta × Nat → List Sta × Nat} {W : Nat} (h : ∀ r, (f r).1.length ≤ r.1.length + W) : ∀ (c : Nat) (r : List Sta × Nat), ((List.range c).foldl (fun r _ => f r) r).1.length ≤ r.1.length + c * W := by
 intro c
 induction c with
 | zero => intro r; simp
 | succ c ih =>
  intro r
  rw [List.range_succ, List.foldl_append]
  simp only [List.foldl_cons, List.foldl_nil]
  have h1 := ih r
  have h2 := h ((List.range c).foldl (fun r _ => f r) r)
  have e : (c + 1) * W = c * W + W := by rw [Nat.add_mul]; omega
  omega
theorem range_fold {α : Type} (f : α → α) (c : Nat) (r : α) : (List.range (c + 1)).foldl (fun r _ => f r) r = f ((List.range c).foldl (fun r _ => f r) r) := by
 rw [List.range_succ, List.foldl_append]; rfl
def rep0 (b : List Sta → Nat → List Sta × Nat) (mx : Int) (L : List Sta) (next : Nat) : List Sta × Nat := if mx < 0 then ((b (L ++ [.splits 0 next]) L.length).1.set L.length (.splits (b (L ++ [.splits 0 next]) L.length).2 next), L.length) else (L, next)
def rep1 (b : List Sta → Nat → List Sta × Nat) (out : Nat) (r : List Sta × Nat) : List Sta × Nat := ((b r.1 r.2).1 ++ [.splits (b r.1 r.2).2 out], (b r.1 r.2).1.length)
def rep2 (b : List Sta → Nat → List Sta × Nat) (r : List Sta × Nat) : List Sta × Nat := b r.1 r.2
theorem buildRep_eq {x : Nd} {kids : List Nd} {mn mx : Int} {L : List Sta} {next : Nat} (h : kids[0]? = some x) : buildRep K14 kids mn mx L next =
  (List.range mn.toNat).foldl (fun r _ => rep2 (build K14 x) r) ((List.range (mx - mn).toNat).foldl (fun r _ => rep1 (build K14 x) (rep0 (build K14 x) mx L next).2 r) (rep0 (build K14 x) mx L next)) := by
 cases kids with
 | nil => simp at h
 | cons y ys =>
  simp at h; subst h
  rw [buildRep]
  unfold rep0 rep1 rep2
  split <;> rfl
theorem rep_len {b : List Sta → Nat → List Sta × Nat} {w : Nat} {mn mx : Int} (hb : ∀ L next, (b L next).1.length + 1 ≤ L.length + 10 * w) (hm : 0 ≤ mn) (hx : mx = -1 ∨ mn ≤ mx) (L : List Sta) (next : Nat) :
  ((List.range mn.toNat).foldl (fun r _ => rep2 b r) ((List.range (mx - mn).toNat).foldl (fun r _ => rep1 b (rep0 b mx L next).2 r) (rep0 b mx L next))).1.length ≤ L.length + 10 * (w * (if mx < 0 then mn + 1 else mx).toNat) := by
 have h2 := fold_len (f := rep2 b) (W := 10 * w) (fun r => by have := hb r.1 r.2; unfold rep2; omega) mn.toNat ((List.range (mx - mn).toNat).foldl (fun r _ => rep1 b (rep0 b mx L next).2 r) (rep0 b mx L next))
 have h1 := fold_len (f := rep1 b (rep0 b mx L next).2) (W := 10 * w) (fun r => by have := hb r.1 r.2; unfold rep1; simp; omega) (mx - mn).toNat (rep0 b mx L next)
 by_cases h : mx < 0
 ·
  rw [if_pos h]
  have h0 : (rep0 b mx L next).1.length ≤ L.length + 10 * w := by
   unfold rep0; rw [if_pos h]
   have := hb (L ++ [.splits 0 next]) L.length
   simp at this ⊢; omega
  have hz : (mx - mn).toNat = 0 := by omega
  rw [hz] at h1
  have e : (mn + 1).toNat = mn.toNat + 1 := by omega
  rw [e]
  have e2 : 10 * (w * (mn.toNat + 1)) = mn.toNat * (10 * w) + 10 * w := by rw [Nat.mul_add, Nat.mul_one, Nat.mul_add, ← Nat.mul_assoc, Nat.mul_comm (10 * w)]
  rw [hz] at h2 ⊢
  omega
 ·
  rw [if_neg h]
  have h0 : (rep0 b mx L next).1.length = L.length := by unfold rep0; rw [if_neg h]
  have e : mx.toNat = (mx - mn).toNat + mn.toNat := by omega
  have e2 : 10 * (w * mx.toNat) = (mx - mn).toNat * (10 * w) + mn.toNat * (10 * w) := by rw [e, Nat.mul_add, Nat.mul_add, ← Nat.mul_assoc, ← Nat.mul_assoc, Nat.mul_comm (10 * w), Nat.mul_comm (10 * w)]
  omega
mutual
theorem build_len : ∀ (n : Nd), allLoc locB n → ∀ (L : List Sta) (next : Nat), (build K14 n L next).1.length + 1 ≤ L.length + 10 * wt K14 n
 | .mk k set no kids mn mx, h, L, next => by
  have hk := loc_kind h
  have h0 := h
  rw [allLoc] at h
  have hL := h.2
  have h1 := h.1
  simp only [locB, oneB, Bool.and_eq_true] at h1
  have h1 := h1.2
  rw [build14_mk, wt14_mk]
  rcases hk with rfl | rfl | rfl | rfl | rfl | rfl
  · simp
  ·
   have := buildCat_len kids hL L next
   simp at h1
   simp only [reduceIte, Int.reduceEq]; omega
  ·
   simp at h1
   cases kids with
   | nil => simp at h1
   | cons x ns =>
    rw [allLocL] at hL
    have a1 := build_len x hL.1 L next
    have a2 := buildOr_len ns hL.2 next (build K14 x L next)
    simp only [reduceIte, Int.reduceEq]
    rw [buildAlt, wtL]; omega
  ·
   obtain ⟨q1, q2, q3, q4⟩ := loc_rep h0
   simp at h1
   cases kids with
   | nil => simp at h1
   | cons x ns =>
    cases ns with
    | cons y ys => simp at h1; omega
    | nil =>
     rw [allLocL] at hL
     have a1 := rep_len (b := build K14 x) (w := wt K14 x) (mn := mn) (mx := mx) (build_len x hL.1) q1 q4 L next
     simp only [reduceIte, Int.reduceEq]
     rw [buildRep_eq (x := x) rfl, show wtL K14 [x] = wt K14 x by simp [wtL]]; omega
  · simp
  · simp
theorem buildCat_len : ∀ (ns : List Nd), allLocL locB ns → ∀ (L : List Sta) (next : Nat), (buildCat K14 ns L next).1.length + ns.length ≤ L.length + 10 * wtL K14 ns
 | [], _, L, next => by simp [buildCat]
 | n :: ns, h, L, next => by
  rw [allLocL] at h
  have a1 := buildCat_len ns h.2 L next
  have a2 := build_len n h.1 (buildCat K14 ns L next).1 (buildCat K14 ns L next).2
  rw [buildCat, wtL, List.length_cons]; omega
theorem buildOr_len : ∀ (ns : List Nd), allLocL locB ns → ∀ (next : Nat) (r : List Sta × Nat), (buildOr K14 ns next r).1.length ≤ r.1.length + 10 * wtL K14 ns
 | [], _, next, r => by simp [buildOr]
 | n :: ns, h, next, r => by
  rw [allLocL] at h
  have a1 := build_len n h.1 r.1 next
  have a2 := buildOr_len ns h.2 next ((build K14 n r.1 next).1 ++ [.splits r.2 (build K14 n r.1 next).2], (build K14 n r.1 next).1.length)
  rw [List.length_append, List.length_singleton] at a2
  rw [buildOr, wtL]; omega
end
theorem build_pre {n : Nd} (h : allLoc locB n) (L : List Sta) (next : Nat) : ∃ E, (build K14 n L next).1 = L ++ E := (build_ok K14 [] n (loc_ok n h) L next).1
theorem wtL_get {ns : List Nd} {i : Nat} {n : Nd} (e : ns[i]? = some n) : wt K14 n + wtL K14 (ns.drop (i + 1)) ≤ wtL K14 (ns.drop i) := by
 have hi := (List.getElem?_eq_some_iff.1 e).1
 rw [List.drop_eq_getElem_cons hi, wtL]
 have : ns[i] = n := (List.getElem?_eq_some_iff.1 e).2
 rw [this]; omega
theorem flat_set {B : List Sta} {i x y z : Nat} (h : B[i]? = some (.splits z y)) : (B.flatMap encSta).take (i * 9 + 7) ++ [D.int .i64 (x : Int)] ++ (B.flatMap encSta).drop (i * 9 + 7 + 1) = (B.set i (.splits x y)).flatMap encSta := by
 have hi := (List.getElem?_eq_some_iff.1 h).1
 have e : B = B.take i ++ .splits z y :: B.drop (i + 1) := by
  have := List.drop_eq_getElem_cons hi
  rw [(List.getElem?_eq_some_iff.1 h).2] at this
  rw [← this, List.take_append_drop]
 have hl : ((B.take i).flatMap encSta).length = i * 9 := by rw [flat_len encSta_len, List.length_take, Nat.min_eq_left (by omega)]
 have e2 : B.set i (.splits x y) = B.take i ++ .splits x y :: B.drop (i + 1) := by
  rw [List.set_eq_take_append_cons_drop, if_pos hi]
 rw [e2]
 conv => lhs; rw [e]
 simp only [List.flatMap_append, List.flatMap_cons]
 generalize hA : (B.take i).flatMap encSta = A at *
 generalize (B.drop (i + 1)).flatMap encSta = C
 have t1 : (A ++ (encSta (.splits z y) ++ C)).take (i * 9 + 7) = A ++ (encSta (.splits z y)).take 7 := by
  rw [List.take_append, hl, List.take_of_length_le (by omega), show i * 9 + 7 - i * 9 = 7 by omega, List.take_append_of_le_length (by rw [encSta_len]; omega)]
 have t2 : (A ++ (encSta (.splits z y) ++ C)).drop (i * 9 + 7 + 1) = (encSta (.splits z y)).drop 8 ++ C := by
  rw [List.drop_append, hl, List.drop_of_length_le (by omega), show i * 9 + 7 + 1 - i * 9 = 8 by omega, List.drop_append_of_le_length (by rw [encSta_len]; omega)]; rfl
 rw [t1, t2]
 simp [encSta]
end
end Go.Vai
namespace Go.Vai
open Go.Nfa
noncomputable section
def postB (first sz : Int) (R : List Sta × Nat) : D → List Ob → Prop := fun r L1 => ∃ n1, R.1.length = n1 ∧ r = .int .i64 ((R.2 : Nat) : Int) ∧ L1 = [.box [.row 1 0 n1 n1, .int .i64 first, .int .i64 sz], .row 9 n1 (R.1.flatMap encSta)]
theorem postB_of {first sz : Int} {R S : List Sta × Nat} {q : Nat} (e : R = S) (h : S.1.length = q) : postB first sz R (.int .i64 ((S.2 : Nat) : Int)) [.box [.row 1 0 q q, .int .i64 first, .int .i64 sz], .row 9 q (S.1.flatMap encSta)] := by subst e; exact ⟨q, h, rfl, rfl⟩
theorem build_ge {x : Nd} (h : allLoc locB x) (L : List Sta) (next : Nat) : L.length ≤ (build K14 x L next).1.length := by
 obtain ⟨E, e⟩ := build_pre h L next
 rw [e, List.length_append]; omega
theorem wtL_drop {kids : List Nd} {i : Nat} : wtL K14 (kids.drop i) ≤ wtL K14 kids := by
 induction kids generalizing i with
 | nil => simp
 | cons x ns ih => cases i with
  | zero => exact Nat.le_refl _
  | succ i => have := ih (i := i); rw [List.drop_succ_cons, wtL]; omega
theorem sub_mul {c i W : Nat} (h : i < c) : (c - i) * W = (c - (i + 1)) * W + W := by
 rw [show c - i = (c - (i + 1)) + 1 by omega, Nat.add_mul, Nat.one_mul]
theorem rep_total {mn mx : Int} {W : Nat} (h0 : 0 ≤ mn) (h1 : mx = -1 ∨ mn ≤ mx) : (if mx < 0 then mn + 1 else mx).toNat * W = (if mx < 0 then W else 0) + ((mx - mn).toNat * W + mn.toNat * W) := by
 by_cases h : mx < 0
 · rw [if_pos h, if_pos h, show (mx - mn).toNat = 0 by omega, show (mn + 1).toNat = mn.toNat + 1 by omega, Nat.add_mul]; omega
 · rw [if_neg h, if_neg h, show mx.toNat = (mx - mn).toNat + mn.toNat by omega, Nat.add_mul]; omega
theorem wt_kid {k : Int} {set : List (Int × Int)} {no : Bool} {kids : List Nd} {mn mx : Int} {x : Nd} (hl : allLoc locB (.mk k set no kids mn mx)) (hk : k = 5) (e : kids[0]? = some x) : wt K14 (.mk k set no kids mn mx) = (if mx < 0 then mn + 1 else mx).toNat * wt K14 x + 1 := by
 subst hk
 have h := hl
 rw [allLoc] at h
 have h1 := h.1
 simp only [locB, oneB, Bool.and_eq_true] at h1
 have h1 := h1.2
 simp at h1
 have hlen := h1.1.1.1.1
 cases kids with
 | nil => simp at hlen
 | cons y ns => cases ns with
  | cons z zs => simp at hlen; omega
  | nil =>
   simp at e; subst e
   rw [wt14_mk]; simp only [reduceIte, Int.reduceEq]
   rw [show wtL K14 [y] = wt K14 y by simp [wtL], Nat.mul_comm]
theorem splits_get {x : Nd} (hl : allLoc locB x) {L : List Sta} {s : Sta} {n next : Nat} (hn : L.length = n) : (build K14 x (L ++ [s]) next).1[n]? = some s := by
 obtain ⟨E, h⟩ := build_pre hl (L ++ [s]) next
 rw [h, List.append_assoc, List.getElem?_append_right (by omega), hn, Nat.sub_self]; rfl
theorem tail_sl {kids ns : List Nd} {x : Nd} (h : kids = x :: ns) : D.sl 6 (kids.length - 1) (((encNs kids).drop (1 * 6)).take ((kids.length - 1) * 6)) = .sl 6 ns.length (encNs ns) := by
 subst h
 have hl : (encNs ns).length = ns.length * 6 := by rw [encNs_eq, flat_len encN_len]
 rw [encNs, List.drop_append, List.drop_of_length_le (by rw [encN_len]; omega), encN_len, List.nil_append, List.length_cons, Nat.add_sub_cancel]
 rw [show 1 * 6 - 6 = 0 from rfl, List.drop_zero, List.take_of_length_le (by omega)]
theorem cons_of {α : Type} {l : List α} (h : 2 ≤ l.length) : ∃ x ns, l = x :: ns := by
 cases l with
 | nil => simp at h
 | cons x ns => exact ⟨x, ns, rfl⟩
theorem loc_alt {k : Int} {set : List (Int × Int)} {no : Bool} {kids : List Nd} {mn mx : Int} (h : allLoc locB (.mk k set no kids mn mx)) (hk : k = 3 ∨ k = 4) : 2 ≤ kids.length := by
 rw [allLoc] at h
 have h := h.1
 simp only [locB, oneB, Bool.and_eq_true] at h
 have h := h.2
 rcases hk with rfl | rfl <;> simp at h <;> omega
end
end Go.Vai
namespace Go.Vai
open Go.Nfa
noncomputable section
def compQ (N : Nd) : D → List Ob → Prop := fun r L1 =>
 (Nfa.cnt locB N 1 ≤ 2000 ∧ wp K14 20001 N ≤ 20000 ∧ ∃ n1, (machine K14 N).1.length = n1 ∧ r = .tup [.loc 1 0, .int .i64 0] ∧
  L1 = [.box (encN N), .box [.sl 9 n1 ((machine K14 N).1.flatMap encSta), .int .i64 (((machine K14 N).2 : Nat) : Int), .int .i64 ((wp K14 20001 N : Nat) : Int)], .dead]) ∨
 (Nfa.cnt locB N 1 ≤ 2000 ∧ ¬ wp K14 20001 N ≤ 20000 ∧ r = .tup [.lit (.pointer none), .int .i64 3] ∧ L1 = []) ∨
 (¬ Nfa.cnt locB N 1 ≤ 2000 ∧ r = .tup [.lit (.pointer none), .int .i64 5] ∧ L1 = [])
theorem compQ_err {N : Nd} (h : ¬ Nfa.cnt locB N 1 ≤ 2000) : compQ N (.tup [.lit (.pointer none), .int .i64 5]) [] := .inr (.inr ⟨h, rfl, rfl⟩)
theorem compQ_full {N : Nd} (h : Nfa.cnt locB N 1 ≤ 2000) (h2 : (20000 : Int) < ((wp K14 20001 N : Nat) : Int)) : compQ N (.tup [.lit (.pointer none), .int .i64 3]) [] := .inr (.inl ⟨by omega, by omega, rfl, rfl⟩)
theorem compQ_ok {k : Int} {set : List (Int × Int)} {no : Bool} {kids : List Nd} {mn mx : Int} {n1 : Nat} (h : Nfa.cnt locB (.mk k set no kids mn mx) 1 ≤ 2000) (h2 : ¬ (20000 : Int) < ((wp K14 20001 (.mk k set no kids mn mx) : Nat) : Int)) (hn : (build K14 (.mk k set no kids mn mx) ([] ++ [Sta.done]) 0).1.length = n1) :
  compQ (.mk k set no kids mn mx) (.tup [.loc 1 0, .int .i64 0]) [.box [.int .i64 k, .sl 2 set.length (set.flatMap encR), .bool no, .sl 6 kids.length (encNs kids), .int .i64 mn, .int .i64 mx], .box [.sl 9 n1 ((build K14 (.mk k set no kids mn mx) ([] ++ [Sta.done]) 0).1.flatMap encSta), .int .i64 (((build K14 (.mk k set no kids mn mx) ([] ++ [Sta.done]) 0).2 : Nat) : Int), .int .i64 ((wp K14 20001 (.mk k set no kids mn mx) : Nat) : Int)], .dead] :=
 .inl ⟨by omega, by omega, n1, hn, rfl, by rw [encN]; rfl⟩
theorem cnt_small {N : Nd} (h : Nfa.cnt locB N 1 ≤ 2000) : size N ≤ 2000 ∧ allLoc locB N := by
 have := (Nfa.cnt_ok locB N 1).2 (by omega)
 exact ⟨this.2.1, this.2.2⟩
theorem wt_small {N : Nd} (h : ¬ (20000 : Int) < ((wp K14 20001 N : Nat) : Int)) : wt K14 N ≤ 20000 := by
 have := wp_ok K14 20001 N
 omega
end
end Go.Vai
namespace Go.Vai
open Go.Nfa
noncomputable section
def tbl (S : List Sta) (l : List Int) (at_ n nn : Nat) (first sz : Int) (seen : List Int) (now : List Nat) : List Ob :=
 [.box [.loc 1 0, .sl 1 l.length (l.map (D.int .i32)), .int .i64 ((at_ : Nat) : Int), .row 2 0 n n, .row 3 0 nn nn], .box [.sl 9 n (S.flatMap encSta), .int .i64 first, .int .i64 sz], .row 1 n (seen.map (D.int .i64)), .row 1 nn (now.map natD)]
def entQ (S : List Sta) (l : List Int) (at_ n : Nat) (first sz : Int) (X0 : Nat → Prop) (s : Nat) (seen0 : List Int) : D → List Ob → Prop := fun r L1 => ∃ seen now nn, r = .tup [] ∧
 (Nfa.Ent S l.length at_ (fun x => X0 x ∨ x = s) seen now [] ∧ seen[s]? = some ((at_ : Int) + 1) ∧ (∀ t : Nat, seen0[t]? = some ((at_ : Int) + 1) → seen[t]? = some ((at_ : Int) + 1)) ∧ (∀ (t : Nat) v, seen[t]? = some v → v ≤ (at_ : Int) + 1) ∧ now.length + unm at_ seen ≤ S.length) ∧
 now.length = nn ∧ seen.length = n ∧ L1 = tbl S l at_ n nn first sz seen now
theorem entQ_of {S : List Sta} {l : List Int} {at_ n q nn : Nat} {first sz : Int} {X0 : Nat → Prop} {s : Nat} {seen0 seen : List Int} {now todo : List Nat} (h : EI S l.length at_ X0 s seen0 seen now todo) (hq : todo.length = q) (h0 : ¬ (0 : Int) < ((q : Nat) : Int)) (hnn : now.length = nn) (hsl : seen.length = n) :
  entQ S l at_ n first sz X0 s seen0 (.tup []) (tbl S l at_ n nn first sz seen now) := by
 have : todo = [] := List.length_eq_zero_iff.1 (by omega)
 subst this
 exact ⟨seen, now, nn, rfl, ⟨h.done.1, h.done.2, h.mono, h.le, h.nb⟩, hnn, hsl, rfl⟩
theorem snoc_of {α : Type} {l : List α} {q : Nat} (h : l.length = q) (h0 : 0 < q) : ∃ td x, l = td ++ [x] ∧ td.length + 1 = q := by
 rcases List.eq_nil_or_concat l with rfl | ⟨td, x, rfl⟩
 · simp at h; omega
 · exact ⟨td, x, by simp, by simpa using h⟩
theorem top_is {todo td rest : List Nat} {x q : Nat} (h : todo = td ++ [x]) (hq : td.length + 1 = q) : D.int .i64 ((((todo ++ rest).getD (q - 1) 0 : Nat)) : Int) = .int .i64 ((x : Nat) : Int) := by
 subst h hq
 congr 2
 rw [List.getD_eq_getElem?_getD, Nat.add_sub_cancel, List.append_assoc, List.getElem?_append_right (Nat.le_refl _), Nat.sub_self]; rfl
theorem stk_pop {todo td rest : List Nat} {x : Nat} (h : todo = td ++ [x]) : (todo ++ rest).map natD = (td ++ ([x] ++ rest)).map natD := by rw [h, List.append_assoc]
theorem get_of {S : List Sta} {x : Nat} (h : x < S.length) : ∃ σ, S[x]? = some σ := ⟨_, List.getElem?_eq_getElem h⟩
end
end Go.Vai

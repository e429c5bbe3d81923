/-
  What is proved here: a pattern that lies in a world, brought into a plain heap (part NX). No conditions. What is proved here: a call whose first argument is a pattern that lies in a world: what the plain heap answers, the world answers; what was there stays (part NY). No conditions.
-/
import Derived.Test.YtiebldaihnbkmaaGreatDoorRJ
import Derived.Test.YtiebldaihnbkmaaGreatDoorNA
import Derived.Test.YtiebldaihnbkmaaGreatDoorVO
import Derived.Test.YtiebldaihnbkmaaGreatDoorRH
set_option linter.unusedVariables false
set_option linter.unusedSimpArgs false
set_option linter.unusedVariables false
set_option linter.unusedSimpArgs false
namespace Go.Vai
open Go.Nfa
noncomputable section
/-! ### Patterns in a world -/
abbrev SlW := Option (Addr × Nat)
inductive WN where
  | mk (k : Int) (sa : SlW) (set : List (Int × Int)) (no : Bool) (ka : SlW) (kids : List WN) (mn mx : Int)
def slV (s : SlW) (n : Nat) : Value := match s with
  | none => .slice none 0 0
  | some (a, c) => .slice (some a) n c
def rgV (r : Int × Int) : List Value := [.int .i32 r.1, .int .i32 r.2]
mutual
def WN.nd : WN → Nd
  | .mk k sa set no ka kids mn mx => .mk k set no (WN.nds kids) mn mx
def WN.nds : List WN → List Nd
  | [] => []
  | n :: ns => WN.nd n :: WN.nds ns
end
def WN.cells : WN → List Value
  | .mk k sa set no ka kids mn mx => [.int .i64 k, slV sa set.length, .bool no, slV ka kids.length, .int .i64 mn, .int .i64 mx]
theorem WN.cells_len (n : WN) : n.cells.length = 6 := by cases n; rfl
theorem WN.nds_len : ∀ ns : List WN, (WN.nds ns).length = ns.length
  | [] => rfl
  | n :: ns => by rw [WN.nds, List.length_cons, List.length_cons, WN.nds_len ns]
def slOk (W : World) (s : SlW) (e n : Nat) (cs : List Value) : Prop := cs.length = n * e ∧ match s with
  | none => n = 0
  | some (a, c) => n ≤ c ∧ (c = 0 ∨ (a.spot = none ∧ (∀ j, j < c * e → (∃ v, W.cell? ⟨a.block, a.off + j, none⟩ = some v) ∧ W.frozen? ⟨a.block, a.off + j, none⟩ = false) ∧ ∀ (j : Nat) v, cs[j]? = some v → W.cell? ⟨a.block, a.off + j, none⟩ = some v))
mutual
def WN.ok (W : World) : WN → Prop
  | .mk k sa set no ka kids mn mx => slOk W sa 2 set.length (set.flatMap rgV) ∧ slOk W ka 6 kids.length (kids.flatMap WN.cells) ∧ WN.oks W kids
def WN.oks (W : World) : List WN → Prop
  | [] => True
  | n :: ns => WN.ok W n ∧ WN.oks W ns
end
/-! ### The plain heap -/
structure BK where
  l : List Value
  e : Nat
  img : Option (Nat × Nat × Nat)
def bkOf (s : SlW) (e : Nat) (l : List Value) : BK := ⟨l, e, match s with
  | none => none
  | some (a, c) => if c = 0 then none else some (a.block, a.off, a.off + c * e)⟩
def slB (s : SlW) (n b : Nat) : Value := match s with
  | none => .slice none 0 0
  | some _ => .slice (some ⟨b, 0, none⟩) n n
mutual
def layN : WN → List BK → List Value × List BK
  | .mk k sa set no ka kids mn mx, bs =>
    ([.int .i64 k, slB sa set.length ((layL kids bs).2.length + 1), .bool no, slB ka kids.length (layL kids bs).2.length, .int .i64 mn, .int .i64 mx],
      (layL kids bs).2 ++ [bkOf ka 6 (layL kids bs).1] ++ [bkOf sa 2 (set.flatMap rgV)])
def layL : List WN → List BK → List Value × List BK
  | [], bs => ([], bs)
  | n :: ns, bs => ((layN n bs).1 ++ (layL ns (layN n bs).2).1, (layL ns (layN n bs).2).2)
end
mutual
theorem layN_ext : ∀ (n : WN) (bs : List BK), ∃ xs, (layN n bs).2 = bs ++ xs
  | .mk k sa set no ka kids mn mx, bs => by
    obtain ⟨xs, h⟩ := layL_ext kids bs
    rw [layN]
    exact ⟨xs ++ [bkOf ka 6 (layL kids bs).1] ++ [bkOf sa 2 (set.flatMap rgV)], by simp only [h, List.append_assoc]⟩
theorem layL_ext : ∀ (ns : List WN) (bs : List BK), ∃ xs, (layL ns bs).2 = bs ++ xs
  | [], bs => ⟨[], by rw [layL, List.append_nil]⟩
  | n :: ns, bs => by
    obtain ⟨xs, h⟩ := layN_ext n bs
    obtain ⟨ys, h2⟩ := layL_ext ns (layN n bs).2
    rw [layL]
    exact ⟨xs ++ ys, by show (layL ns (layN n bs).2).2 = _; rw [h2, h, List.append_assoc]⟩
end
mutual
theorem layN_len : ∀ (n : WN) (bs : List BK), (layN n bs).1.length = 6
  | .mk k sa set no ka kids mn mx, bs => by rw [layN]; rfl
theorem layL_len : ∀ (ns : List WN) (bs : List BK), (layL ns bs).1.length = ns.length * 6
  | [], bs => by rw [layL]; rfl
  | n :: ns, bs => by rw [layL]; simp only [List.length_append, layN_len n bs, layL_len ns, List.length_cons]; omega
end
theorem rg_len (set : List (Int × Int)) : (set.flatMap rgV).length = set.length * 2 := by
  induction set with
  | nil => rfl
  | cons r rs ih => rw [List.flatMap_cons, List.length_append, ih, List.length_cons]; simp [rgV]; omega
def Has (a : AH) (T : Nat) (bs : List BK) : Prop := ∀ (i : Nat) x, bs[i]? = some x → a.blk i = some ⟨x.l, T, false, x.e⟩
theorem Has.sub {a : AH} {T : Nat} {bs xs : List BK} (h : Has a T (bs ++ xs)) : Has a T bs := fun i x e => h i x (by
  rw [List.getElem?_append_left (List.getElem?_eq_some_iff.1 e).1]; exact e)
theorem cr_row {a : AH} {T : Nat} {bs : List BK} (H : Has a T bs) (hT : T < a.next) {i e n : Nat} {x : BK} {cs : List D} {s : SlW} (hx : bs[i]? = some x) (he : x.e = e) (hn : cs.length = n * e) (hs : s = none → n = 0) (h : F2 (CR (fun _ => False) a) cs x.l) : CR (fun _ => False) a (.sl e n cs) (slB s n i) := by
  cases s with
  | none =>
    have := hs rfl
    subst this
    have : cs = [] := List.length_eq_zero_iff.1 (by omega)
    subst this
    exact .nil
  | some s =>
    refine SlAt.cr ⟨_, H i x hx, fun f => f, hT, he, hn, ?_, fun j d hd => ?_⟩ (Nat.le_refl _)
    · rw [Nat.zero_add, ← hn, h.length]; exact Nat.le_refl _
    · obtain ⟨v, q1, q2⟩ := h.get j d hd
      exact ⟨v, by rw [Nat.zero_add]; exact q1, q2⟩
theorem cr_rg {a : AH} : ∀ set : List (Int × Int), F2 (CR (fun _ => False) a) (set.flatMap encR) (set.flatMap rgV)
  | [] => .nil
  | r :: rs => .cons .int (.cons .int (cr_rg rs))
theorem F2.app {α β : Type} {R : α → β → Prop} {l l2 : List α} {m m2 : List β} (h : F2 R l m) (k : F2 R l2 m2) : F2 R (l ++ l2) (m ++ m2) := by
  induction h with
  | nil => exact k
  | cons h t ih => exact .cons h ih
theorem slOk.nil {W : World} {s : SlW} {e n : Nat} {cs : List Value} (h : slOk W s e n cs) : s = none → n = 0 := by
  rintro rfl; exact h.2
mutual
theorem layN_cr {a : AH} {T : Nat} {W : World} (hT : T < a.next) : ∀ (n : WN) (bs : List BK), WN.ok W n → Has a T (layN n bs).2 → F2 (CR (fun _ => False) a) (encN n.nd) (layN n bs).1
  | .mk k sa set no ka kids mn mx, bs, ho, H => by
    rw [WN.ok] at ho
    obtain ⟨o1, o2, o3⟩ := ho
    rw [layN] at H ⊢
    simp only at H ⊢
    have hk := layL_cr hT kids bs o3 H.sub.sub
    rw [WN.nd, encN]
    have hl : (encNs (WN.nds kids)).length = kids.length * 6 := by rw [hk.length, layL_len]
    refine .cons .int (.cons ?_ (.cons .bool (.cons ?_ (.cons .int (.cons .int .nil)))))
    · refine cr_row H hT (x := bkOf sa 2 (set.flatMap rgV)) ?_ rfl ?_ o1.nil (cr_rg set)
      · rw [List.getElem?_append_right (by simp)]; simp
      · rw [(cr_rg (a := a) set).length, rg_len]
    · rw [WN.nds_len]
      refine cr_row H hT (x := bkOf ka 6 (layL kids bs).1) ?_ rfl hl o2.nil hk
      rw [List.getElem?_append_left (by simp), List.getElem?_append_right (Nat.le_refl _)]; simp
theorem layL_cr {a : AH} {T : Nat} {W : World} (hT : T < a.next) : ∀ (ns : List WN) (bs : List BK), WN.oks W ns → Has a T (layL ns bs).2 → F2 (CR (fun _ => False) a) (encNs (WN.nds ns)) (layL ns bs).1
  | [], bs, _, H => by rw [layL, WN.nds, encNs]; exact .nil
  | n :: ns, bs, ho, H => by
    rw [WN.oks] at ho
    rw [layL] at H ⊢
    simp only at H ⊢
    rw [WN.nds, encNs]
    obtain ⟨ys, e⟩ := layL_ext ns (layN n bs).2
    exact F2.app (layN_cr hT n bs ho.1 (by rw [e] at H; exact H.sub)) (layL_cr hT ns _ ho.2 H)
end
/-! ### The map of blocks -/
def imgOf (W : World) (T : Nat) (x : BK) : Option Img := match x.img with
  | none => none
  | some (g, o, m) => some ⟨g, o, m, x.e, match W.heap[g]? with
    | some ob => some (ob, T)
    | none => none⟩
def HasR (W : World) (T : Nat) (ρ : Rho) (bs : List BK) : Prop := ∀ (i : Nat) x, bs[i]? = some x → ρ i = imgOf W T x
theorem HasR.sub {W : World} {T : Nat} {ρ : Rho} {bs xs : List BK} (h : HasR W T ρ (bs ++ xs)) : HasR W T ρ bs := fun i x e => h i x (by
  rw [List.getElem?_append_left (List.getElem?_eq_some_iff.1 e).1]; exact e)
theorem sl_rel {W : World} {T : Nat} {ρ : Rho} {bs : List BK} (H : HasR W T ρ bs) {s : SlW} {e n i : Nat} {cs l : List Value} (o : slOk W s e n cs) (hx : bs[i]? = some (bkOf s e l)) : LRel ρ (slB s n i) (slV s n) := by
  have hr := H i _ hx
  cases s with
  | none => exact .plain rfl
  | some p =>
    obtain ⟨a, c⟩ := p
    obtain ⟨o1, o2, o3⟩ := o
    rcases o3 with rfl | ⟨q1, q2, q3⟩
    · have : n = 0 := by omega
      subst this
      exact .sliceE
    · obtain ⟨g, off, sp⟩ := a
      simp only at q1
      subst q1
      by_cases hc : c = 0
      · subst hc
        have : n = 0 := by omega
        subst this
        exact .sliceE
      · have hi : ρ i = some ⟨g, off, off + c * e, e, match W.heap[g]? with | some ob => some (ob, T) | none => none⟩ := by
          rw [hr]; unfold imgOf bkOf; simp only [if_neg hc]
        exact LRel.slice (i := 0) hi (Nat.le_refl _) o2 (by simp)
mutual
theorem layN_rel {W : World} {T : Nat} {ρ : Rho} : ∀ (n : WN) (bs : List BK), WN.ok W n → HasR W T ρ (layN n bs).2 → F2 (LRel ρ) (layN n bs).1 n.cells
  | .mk k sa set no ka kids mn mx, bs, ho, H => by
    rw [WN.ok] at ho
    obtain ⟨o1, o2, o3⟩ := ho
    rw [layN] at H ⊢
    simp only at H ⊢
    refine .cons (.plain rfl) (.cons ?_ (.cons (.plain (by cases no <;> rfl)) (.cons ?_ (.cons (.plain rfl) (.cons (.plain rfl) .nil)))))
    · refine sl_rel H (l := set.flatMap rgV) o1 ?_
      rw [List.getElem?_append_right (by simp)]; simp
    · refine sl_rel H (l := (layL kids bs).1) o2 ?_
      rw [List.getElem?_append_left (by simp), List.getElem?_append_right (Nat.le_refl _)]; simp
theorem layL_rel {W : World} {T : Nat} {ρ : Rho} : ∀ (ns : List WN) (bs : List BK), WN.oks W ns → HasR W T ρ (layL ns bs).2 → F2 (LRel ρ) (layL ns bs).1 (ns.flatMap WN.cells)
  | [], bs, _, H => by rw [layL]; exact .nil
  | n :: ns, bs, ho, H => by
    rw [WN.oks] at ho
    rw [layL] at H ⊢
    simp only at H ⊢
    rw [List.flatMap_cons]
    obtain ⟨ys, e⟩ := layL_ext ns (layN n bs).2
    exact F2.app (layN_rel n bs ho.1 (by rw [e] at H; exact H.sub)) (layL_rel ns _ ho.2 H)
end
def BOk (W : World) (ρ : Rho) (x : BK) : Prop := ∀ g o m, x.img = some (g, o, m) → (∃ ob, W.heap[g]? = some ob ∧ noCells ob = false) ∧
  (∀ j, o ≤ j → j < m → (∃ v, W.cell? ⟨g, j, none⟩ = some v) ∧ W.frozen? ⟨g, j, none⟩ = false) ∧ o + x.l.length ≤ m ∧ ∀ (i : Nat) v, x.l[i]? = some v → ∃ v', W.cell? ⟨g, o + i, none⟩ = some v' ∧ LRel ρ v v'
theorem bkOk {W : World} {ρ : Rho} {s : SlW} {e n : Nat} {cs l : List Value} (he : 0 < e) (o : slOk W s e n cs) (h : F2 (LRel ρ) l cs) : BOk W ρ (bkOf s e l) := by
  intro g off m hi
  cases s with
  | none => cases hi
  | some p =>
    obtain ⟨a, c⟩ := p
    unfold bkOf at hi ⊢
    simp only at hi ⊢
    by_cases hc : c = 0
    · rw [if_pos hc] at hi; cases hi
    · rw [if_neg hc] at hi
      simp only [Option.some.injEq, Prod.mk.injEq] at hi
      obtain ⟨rfl, rfl, rfl⟩ := hi
      obtain ⟨o1, o2, o3⟩ := o
      rcases o3 with o3 | ⟨q1, q2, q3⟩
      · exact absurd o3 hc
      have hpos : 0 < c * e := Nat.mul_pos (by omega) he
      refine ⟨?_, fun j h1 h2 => ?_, ?_, fun i v hv => ?_⟩
      · obtain ⟨⟨v, hv⟩, _⟩ := q2 0 hpos
        unfold World.cell? at hv
        split at hv
        · rename_i c0 t0 f0 hh
          exact ⟨_, hh, rfl⟩
        · cases hv
      · have := q2 (j - a.off) (by omega)
        rw [show a.off + (j - a.off) = j by omega] at this
        exact this
      · rw [h.length, o1]
        exact Nat.add_le_add_left (Nat.mul_le_mul_right e o2) _
      · obtain ⟨v', r1, r2⟩ := h.get i v hv
        exact ⟨v', q3 i v' r1, r2⟩
theorem rg_rel {ρ : Rho} : ∀ set : List (Int × Int), F2 (LRel ρ) (set.flatMap rgV) (set.flatMap rgV)
  | [] => .nil
  | r :: rs => .cons (.plain rfl) (.cons (.plain rfl) (rg_rel rs))
mutual
theorem layN_bok {W : World} {T : Nat} {ρ : Rho} : ∀ (n : WN) (bs : List BK), WN.ok W n → HasR W T ρ (layN n bs).2 → (∀ x ∈ bs, BOk W ρ x) → ∀ x ∈ (layN n bs).2, BOk W ρ x
  | .mk k sa set no ka kids mn mx, bs, ho, H, hb => by
    rw [WN.ok] at ho
    obtain ⟨o1, o2, o3⟩ := ho
    rw [layN] at H ⊢
    simp only at H ⊢
    have h1 := layL_bok kids bs o3 H.sub.sub hb
    have h2 := layL_rel kids bs o3 H.sub.sub
    intro x hx
    rcases List.mem_append.1 hx with hx | hx
    · rcases List.mem_append.1 hx with hx | hx
      · exact h1 x hx
      · simp at hx; subst hx; exact bkOk (by omega) o2 h2
    · simp at hx; subst hx; exact bkOk (by omega) o1 (rg_rel set)
theorem layL_bok {W : World} {T : Nat} {ρ : Rho} : ∀ (ns : List WN) (bs : List BK), WN.oks W ns → HasR W T ρ (layL ns bs).2 → (∀ x ∈ bs, BOk W ρ x) → ∀ x ∈ (layL ns bs).2, BOk W ρ x
  | [], bs, _, H, hb => by rw [layL]; exact hb
  | n :: ns, bs, ho, H, hb => by
    rw [WN.oks] at ho
    rw [layL] at H ⊢
    simp only at H ⊢
    obtain ⟨ys, e⟩ := layL_ext ns (layN n bs).2
    exact layL_bok ns _ ho.2 H (layN_bok n bs ho.1 (by rw [e] at H; exact H.sub) hb)
end
end
end Go.Vai
set_option linter.unusedVariables false
set_option linter.unusedSimpArgs false
namespace Go.Vai
open Go.Nfa Go.RowKit
noncomputable section
def trB : Nat → Tr Blk → List Blk → Tr Blk
  | _, t, [] => t
  | i, t, v :: vs => trB (i + 1) (t.put i v) vs
theorem trB_get : ∀ (vs : List Blk) (i : Nat) (t : Tr Blk) (j : Nat), (trB i t vs).get j = if i ≤ j ∧ j < i + vs.length then vs[j - i]? else t.get j := by
  intro vs
  induction vs with
  | nil =>
    intro i t j
    have : ¬ (i ≤ j ∧ j < i + ([] : List Blk).length) := by simp
    rw [if_neg this]; rfl
  | cons v vs ih =>
    intro i t j
    show (trB (i + 1) (t.put i v) vs).get j = _
    rw [ih]
    by_cases h : j = i
    · subst h
      rw [if_neg (by omega), if_pos (by simp), Tr.get_put_same (Nat.zero_le _), Nat.sub_self]; rfl
    · by_cases h2 : i + 1 ≤ j ∧ j < i + 1 + vs.length
      · rw [if_pos h2, if_pos (by simp; omega)]
        obtain ⟨m, rfl⟩ : ∃ m, j = i + 1 + m := ⟨j - (i + 1), by omega⟩
        rw [show i + 1 + m - (i + 1) = m by omega, show i + 1 + m - i = m + 1 by omega]; rfl
      · rw [if_neg h2, Tr.get_put_other h, if_neg (by simp; omega)]
def toBlk (T : Nat) (x : BK) : Blk := ⟨trOf 0 .leaf x.l, x.l.length, x.e, T, false⟩
def hOf (bs : List BK) : Heap := ⟨trB 0 .leaf (bs.map (toBlk bs.length) ++ [⟨.leaf, 0, 0, bs.length, false⟩]), bs.length + 1, (Tr.leaf).put bs.length ⟨bs.length, 0⟩, .leaf⟩
def aOf (bs : List BK) : AH := ⟨fun b => match bs[b]? with
  | some x => some ⟨x.l, bs.length, false, x.e⟩
  | none => if b = bs.length then some ⟨[], bs.length, true, 0⟩ else none, fun _ => none, bs.length + 1⟩
def rOf (W : World) (bs : List BK) : Rho := fun b => match bs[b]? with
  | some x => imgOf W bs.length x
  | none => none
theorem leaf_get {α : Type} (i : Nat) : (Tr.leaf : Tr α).get i = none := by unfold Tr.get; rfl
theorem hOf_blk {bs : List BK} {i : Nat} : (hOf bs).blks.get i = match bs[i]? with
    | some x => some (toBlk bs.length x)
    | none => if i = bs.length then some ⟨.leaf, 0, 0, bs.length, false⟩ else none := by
  unfold hOf
  simp only
  rw [trB_get]
  by_cases h : i < bs.length
  · rw [if_pos (by simp; omega), Nat.sub_zero, List.getElem?_append_left (by simpa using h), List.getElem?_map, List.getElem?_eq_getElem h]; rfl
  · have hbn : bs[i]? = none := List.getElem?_eq_none (by omega)
    rw [hbn]
    simp only
    by_cases h2 : i = bs.length
    · subst h2
      rw [if_pos (by simp), if_pos rfl, Nat.sub_zero, List.getElem?_append_right (by simp)]; simp
    · rw [if_neg (by simp; omega), if_neg h2, leaf_get]
theorem hOf_cls {bs : List BK} {i : Nat} : (hOf bs).cls.get i = if i = bs.length then some ⟨bs.length, 0⟩ else none := by
  unfold hOf
  simp only
  by_cases h : i = bs.length
  · subst h; rw [if_pos rfl, Tr.get_put_same (Nat.zero_le _)]
  · rw [if_neg h, Tr.get_put_other h, leaf_get]
theorem hOf_ab (bs : List BK) : Ab (hOf bs) (aOf bs) := by
  refine ⟨fun b hb => ⟨?_, ?_⟩, rfl, fun b B e => ?_, fun b x e => by cases e⟩
  · have hb : bs.length + 1 ≤ b := hb
    rw [hOf_blk, List.getElem?_eq_none (by omega)]; simp only; rw [if_neg (by omega)]
  · have hb : bs.length + 1 ≤ b := hb
    rw [hOf_cls, if_neg (by omega)]
  · have e : (match bs[b]? with
      | some x => some (⟨x.l, bs.length, false, x.e⟩ : AB)
      | none => if b = bs.length then some ⟨[], bs.length, true, 0⟩ else none) = some B := e
    have hn : (hOf bs).next = bs.length + 1 := rfl
    cases hx : bs[b]? with
    | some x =>
      rw [hx] at e
      simp only [Option.some.injEq] at e
      subst e
      have hb := (List.getElem?_eq_some_iff.1 hx).1
      refine ⟨by rw [hn]; omega, by rw [hn]; simp, toBlk bs.length x, ⟨bs.length, 0⟩, by rw [hOf_blk, hx], by rw [hOf_cls, if_pos rfl], rfl, rfl, rfl, rfl, Nat.zero_le _, (fun h => by cases h), by rw [hn]; simp, fun i hi => ?_⟩
      show (trOf 0 .leaf x.l).get i = x.l[i]?
      rw [trOf_get _ _ _ _ (Nat.zero_le _), if_pos (by simpa using hi)]; simp
    | none =>
      rw [hx] at e
      simp only at e
      split at e
      · rename_i hb
        cases e
        subst hb
        exact ⟨by rw [hn]; omega, by rw [hn]; simp, ⟨.leaf, 0, 0, bs.length, false⟩, ⟨bs.length, 0⟩, by rw [hOf_blk, hx]; simp, by rw [hOf_cls, if_pos rfl], rfl, rfl, rfl, rfl, Nat.zero_le _, (fun _ => rfl), by rw [hn]; simp, fun i hi => by cases hi⟩
      · cases e
theorem hOf_rel {W : World} {bs : List BK} (hb : ∀ x ∈ bs, BOk W (rOf W bs) x) : HRel (rOf W bs) (hOf bs) W := by
  have inv : ∀ b I, rOf W bs b = some I → ∃ x g o m, bs[b]? = some x ∧ b < bs.length ∧ x.img = some (g, o, m) ∧ I = ⟨g, o, m, x.e, match W.heap[g]? with | some ob => some (ob, bs.length) | none => none⟩ := by
    intro b I e
    unfold rOf at e
    split at e
    · rename_i x hx
      unfold imgOf at e
      split at e
      · cases e
      · rename_i g o m hi
        cases e
        exact ⟨x, g, o, m, hx, (List.getElem?_eq_some_iff.1 hx).1, hi, rfl⟩
    · cases e
  have blk : ∀ b x, bs[b]? = some x → (hOf bs).blks.get b = some (toBlk bs.length x) := fun b x hx => by rw [hOf_blk, hx]
  have hn : (hOf bs).next = bs.length + 1 := rfl
  refine ⟨trivial, fun b I e => ?_, fun b I B e eB => ?_, fun b I B C e eB eC hm i v hi hv => ?_, fun b₁ b₂ I₁ I₂ B₁ B₂ e1 e2 _ h1 h2 => ?_, fun b I B C J D e eB eC hm eT _ _ => ?_, fun g B e er => ?_, fun b I L e eL => ?_, fun b L eL => ?_, fun b b' I I' L L' _ _ eL => ?_, fun b I L e eL => ?_, fun b I o T e ez => ?_⟩
  · obtain ⟨x, g, o, m, hx, hlt, hi, rfl⟩ := inv b I e
    obtain ⟨_, _, h3, _⟩ := hb x (List.mem_of_getElem? hx) g o m hi
    exact ⟨_, ⟨bs.length, 0⟩, blk b x hx, by rw [hOf_cls]; exact if_pos rfl, by rw [hn]; omega, rfl, by rw [hn]; exact Nat.lt_succ_self _, Nat.le_of_lt hlt, by rw [hn]; exact Nat.lt_succ_self _, h3⟩
  · obtain ⟨x, g, o, m, hx, hlt, hi, rfl⟩ := inv b I e
    obtain ⟨⟨ob, h1, _⟩, h2, _, _⟩ := hb x (List.mem_of_getElem? hx) g o m hi
    exact ⟨(Array.getElem?_eq_some_iff.1 h1).1, fun j a b => (h2 j a b).1, fun _ j a b => (h2 j a b).2⟩
  · obtain ⟨x, g, o, m, hx, hlt, hi', rfl⟩ := inv b I e
    obtain ⟨_, _, _, h4⟩ := hb x (List.mem_of_getElem? hx) g o m hi'
    rw [blk b x hx] at eB; cases eB
    have hv : (trOf 0 .leaf x.l).get i = some v := hv
    rw [trOf_get _ _ _ _ (Nat.zero_le _)] at hv
    split at hv
    · exact h4 i v (by simpa using hv)
    · cases hv
  · obtain ⟨x, g, o, m, hx, hlt, hi, rfl⟩ := inv b₁ I₁ e1
    obtain ⟨y, g', o', m', hy, _, _, rfl⟩ := inv b₂ I₂ e2
    rw [blk b₁ x hx] at h1; cases h1
    rw [blk b₂ y hy] at h2; cases h2
    rfl
  · obtain ⟨x, g, o, m, hx, hlt, hi, rfl⟩ := inv b I e
    rw [blk b x hx] at eB; cases eB
    rw [hOf_cls] at eC
    have : (toBlk bs.length x).cls = bs.length := rfl
    rw [this, if_pos rfl] at eC
    cases eC
    obtain ⟨_, _, _, _, _, h, _⟩ := inv _ J eT
    exact absurd h (Nat.lt_irrefl _)
  · rw [hOf_blk] at e
    split at e
    · cases e; cases er
    · split at e
      · cases e; cases er
      · cases e
  · have : (hOf bs).objs.get b = none := leaf_get b
    rw [this] at eL; cases eL
  · have : (hOf bs).objs.get b = none := leaf_get b
    rw [this] at eL; cases eL
  · have : (hOf bs).objs.get b = none := leaf_get b
    rw [this] at eL; cases eL
  · have : (hOf bs).objs.get b = none := leaf_get b
    rw [this] at eL; cases eL
  · obtain ⟨x, g, o', m, hx, hlt, hi, rfl⟩ := inv b I e
    obtain ⟨⟨ob, h1, h2⟩, _⟩ := hb x (List.mem_of_getElem? hx) g o' m hi
    simp only [h1, Option.some.injEq, Prod.mk.injEq] at ez
    obtain ⟨rfl, rfl⟩ := ez
    refine ⟨Nat.lt_succ_self _, ?_, h2, fun _ _ _ _ _ => h1⟩
    unfold rOf
    rw [List.getElem?_eq_none (Nat.le_refl _)]
theorem Has_aOf (bs : List BK) : Has (aOf bs) bs.length bs := fun i x e => by
  show (match bs[i]? with
    | some x => some (⟨x.l, bs.length, false, x.e⟩ : AB)
    | none => if i = bs.length then some ⟨[], bs.length, true, 0⟩ else none) = _
  rw [e]
theorem HasR_rOf (W : World) (bs : List BK) : HasR W bs.length (rOf W bs) bs := fun i x e => by unfold rOf; rw [e]
theorem aOf_ok (bs : List BK) : (aOf bs).ok := (hOf_ab bs).ok
theorem node_call {P : Program} (hf : P.follows .mixedOrders = true) {ov : Ov} (hov : OvOk P ov) {f : FuncId} {n : WN} {W : World} (ho : n.ok W) {ds : List D} {vs : List Value} (hd : F2 (D1 (MM (fun _ => False) []) [] (aOf (layN n []).2)) ds vs) (hv : vs.all cellsPlain = true)
    (h : PureD P ov f (.agg (encN n.nd) :: ds) (.bool true)) : Calls P f (#[.agg n.cells.toArray] ++ vs.toArray) W fun e w' => e = .returned (.bool true) ∧ Below W.heap.size W w' := by
  obtain ⟨bs, hbs⟩ : ∃ bs, bs = (layN n []).2 := ⟨_, rfl⟩
  have hR : HasR W bs.length (rOf W bs) (layN n []).2 := hbs ▸ HasR_rOf W bs
  have hbok := layN_bok n [] ho hR (fun x hx => by cases hx)
  rw [← hbs] at hbok hd
  have HR := hOf_rel hbok
  have hcr := layN_cr (a := aOf bs) (T := bs.length) (Nat.lt_succ_self _) n [] ho (hbs ▸ Has_aOf bs)
  have hrel := layN_rel n [] ho hR
  have hmm : ∀ k, MM (fun _ => False) [] k → False := fun k m => by
    rcases m with m | m
    · exact m
    · cases m
  have hcr2 : F2 (DL (MM (fun _ => False) []) [] (aOf bs)) (encN n.nd) (layN n []).1 := hcr.mono fun d v r => (r.mono (Keep.refl (fun _ => False) _) (fun _ f => f.elim) fun k _ m => (hmm k m).elim).dl
  have F := h (fun _ => False) [] (aOf bs) (.agg (layN n []).1.toArray :: vs) (aOf_ok bs) (fun _ f => f.elim) rfl .nil (fun k hk => by cases hk) (fun i x o e _ => by cases e) (.cons ⟨_, rfl, hcr2⟩ hd)
  obtain ⟨v, h', a', ⟨K, e⟩, A', q⟩ := F (hOf bs) (hOf_ab bs)
  obtain ⟨r, L', g', q1, q2, q3, q4, q5, q6, q7, q8, q9, q10, q11, q12⟩ := q
  subst q11
  cases q1
  have e := e K (Nat.le_refl _)
  have ra : F2 (VRel (rOf W bs)) (.agg (layN n []).1.toArray :: vs) (#[Value.agg n.cells.toArray] ++ vs.toArray).toList := by
    simp only [Array.toList_append, List.toList_toArray, List.singleton_append]
    refine .cons (.one (.agg (by simpa using hrel))) ?_
    exact F2.refl _ fun a ha => .of_cellsPlain (List.all_eq_true.1 hv a ha)
  refine ((run_ok hf hov K).f f _ _ (.bool true) h' e _ W _ HR ra).mono ?_
  rintro e' w' ⟨v', ρ', rfl, rv, H', gr, fr⟩
  have := rv.eq_of_plain rfl
  subst this
  refine ⟨rfl, fr.os, fr.tape, fr.output, fr.size, fun k hk => ?_⟩
  by_cases hex : ∃ b I, rOf W bs b = some I ∧ I.g = k
  · obtain ⟨b, I, eb, rfl⟩ := hex
    -- what nobody wrote
    have hz : ∃ o, W.heap[I.g]? = some o ∧ I.z = some (o, bs.length) := by
      unfold rOf at eb
      split at eb
      · rename_i x hx
        unfold imgOf at eb
        split at eb
        · cases eb
        · rename_i g o m hi
          cases eb
          obtain ⟨⟨ob, h1, h2⟩, _⟩ := hbok x (List.mem_of_getElem? hx) g o m hi
          exact ⟨ob, h1, by simp only [h1]⟩
      · cases eb
    obtain ⟨o, ho1, ho2⟩ := hz
    obtain ⟨_, _, _, s4⟩ := H'.st b I o bs.length (gr.ext b I eb) ho2
    -- the block, the class
    have hb : ∃ x, bs[b]? = some x := by
      unfold rOf at eb
      split at eb
      · rename_i x hx; exact ⟨x, hx⟩
      · cases eb
    obtain ⟨x, hx⟩ := hb
    have k1 := q7.blk b _ (Has_aOf bs b x hx) (by simp [Gh.cls])
    have k2 := q7.blk bs.length ⟨[], bs.length, true, 0⟩ (by
      show (match bs[bs.length]? with
        | some x => some (⟨x.l, bs.length, false, x.e⟩ : AB)
        | none => if bs.length = bs.length then some ⟨[], bs.length, true, 0⟩ else none) = _
      rw [List.getElem?_eq_none (Nat.le_refl _)]; simp) (by simp [Gh.cls])
    obtain ⟨D1, C1, d1, d2, d3, _⟩ := (A'.blk _ _ k1).ex
    obtain ⟨D2, C2, e1, e2, e3, _, _, _, _, e8, _⟩ := (A'.blk _ _ k2).ex
    have : C1 = C2 := by
      have d2' : h'.cls.get bs.length = some C1 := d2
      have e2' : h'.cls.get bs.length = some C2 := e2
      rw [d2'] at e2'; cases e2'; rfl
    subst this
    rw [s4 D1 C1 d1 (by rw [d3]; exact d2) (e8 rfl), ho1]
  · exact fr.keep k hk fun b I eb eg => hex ⟨b, I, eb, eg⟩
end
end Go.Vai

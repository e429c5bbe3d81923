/-
  What is proved here: base.Get of any text: the bytes whose signs the text is, or none. Conditions: the text is not too long.
-/
import Derived.Test.YtiebldaihnbkmaaGreatDoorPureBase4
set_option linter.unusedVariables false
set_option linter.unusedSimpArgs false
namespace Go.Proofs.YtiebldaihnbkmaaGreatDoor.Pure
open Go.RowKit Go.Proofs.YtiebldaihnbkmaaGreatDoor.PBase Go.Proofs.YtiebldaihnbkmaaGreatDoorW.PrintWords Go.Proofs.YtiebldaihnbkmaaGreatDoorW.PrintLast Go.Proofs.YtiebldaihnbkmaaGreatDoorW.PrintMore

/-- What a decoder answers: the bytes of which the text is the signs; or no bytes, and no. -/
def Answers (t : ByteArray) (X : List Int) (r : ByteArray × Bool) : Prop := (r = (strOfNums X, true) ∧ enc X = rest t 0) ∨ (r = (⟨#[]⟩, false) ∧ enc X ≠ rest t 0)
theorem dec_byt : ∀ (n : Nat) (l : List Int), l.length ≤ n → Byt (dec l) ∧ (dec l).length = l.length / 4 * 3 := by
  intro n
  induction n using Nat.strongRecOn with
  | _ n ih =>
  intro l hl
  match l with
  | a :: b :: c :: d :: r =>
    simp only [List.length_cons] at hl
    obtain ⟨h1, h2⟩ := ih (n - 4) (by omega) r (by omega)
    rw [dec]
    constructor
    · intro x hx
      rw [List.mem_append] at hx
      rcases hx with hx | hx
      · simp only [List.mem_cons, List.mem_nil_iff, or_false] at hx
        rcases hx with rfl | rfl | rfl <;> omega
      · exact h1 x hx
    · rw [List.length_append, h2]
      simp only [List.length_cons, List.length_nil]
      omega
  | [] => exact ⟨fun x hx => by simp [dec] at hx, rfl⟩
  | [_] => exact ⟨fun x hx => by simp [dec] at hx, by simp [dec]⟩
  | [_, _] => exact ⟨fun x hx => by simp [dec] at hx, by simp [dec]⟩
  | [_, _, _] => exact ⟨fun x hx => by simp [dec] at hx, by simp [dec]⟩
theorem v0_sg {n : Int} (h : 0 ≤ n ∧ n < 64) : v0 (sgI n) = n := by unfold v0; rw [vI_sg h.1 h.2, if_pos h.2]
theorem v0_61 : v0 61 = 0 := by decide
theorem dec_quad {n k : Int} (r : List Int) (h0 : 0 ≤ n) (h1 : n < 16777216) (h2 : ¬ 2 ≤ k → n % 4096 = 0) (h3 : ¬ 3 ≤ k → n % 64 = 0) : dec (quad n k ++ r) = [n / 65536 % 256, n / 256 % 256, n % 256] ++ dec r := by
  have e : qn (sgI (n / 262144 % 64)) (sgI (n / 4096 % 64)) (if 2 ≤ k then sgI (n / 64 % 64) else 61) (if 3 ≤ k then sgI (n % 64) else 61) = n := by
    unfold qn
    rw [v0_sg (mod64 _), v0_sg (mod64 _)]
    by_cases a : 2 ≤ k
    · rw [if_pos a, v0_sg (mod64 _)]
      by_cases b : 3 ≤ k
      · rw [if_pos b, v0_sg (mod64 _)]; omega
      · rw [if_neg b, v0_61]; have := h3 b; omega
    · rw [if_neg a, if_neg (by omega), v0_61]; have := h2 a; omega
  unfold quad
  simp only [List.cons_append, List.nil_append]
  rw [dec, e]
  rfl
/-- How many fill signs are at a text's end, at most two. -/
def cnt (l : List Int) : Nat := if 0 < l.length ∧ l.getD (l.length - 1) 0 = 61 then (if l.getD (l.length - 2) 0 = 61 then 2 else 1) else 0
theorem getD_app (n : Int) (k : Int) (l : List Int) (j : Nat) : (quad n k ++ l).getD (4 + j) 0 = l.getD j 0 := by
  rw [List.getD_eq_getElem?_getD, List.getD_eq_getElem?_getD, List.getElem?_append_right (by rw [quad_len]; omega), quad_len, Nat.add_sub_cancel_left]
theorem cnt_app {n k : Int} {l : List Int} (h : 4 ≤ l.length) : cnt (quad n k ++ l) = cnt l := by
  unfold cnt
  have e1 : (quad n k ++ l).length - 1 = 4 + (l.length - 1) := by rw [List.length_append, quad_len]; omega
  have e2 : (quad n k ++ l).length - 2 = 4 + (l.length - 2) := by rw [List.length_append, quad_len]; omega
  have e3 : 0 < (quad n k ++ l).length := by rw [List.length_append, quad_len]; omega
  have e4 : 0 < l.length := by omega
  rw [e1, e2, getD_app, getD_app]
  simp only [e3, e4, true_and]
theorem cnt_quad (n k : Int) : cnt (quad n k) = if 3 ≤ k then 0 else if 2 ≤ k then 1 else 2 := by
  have m (x : Int) : sgI (x % 64) ≠ 61 := (sgI_range (n := x % 64) (by omega) (by omega)).2.2
  have c : cnt (quad n k) = if (if 3 ≤ k then sgI (n % 64) else 61) = 61 then (if (if 2 ≤ k then sgI (n / 64 % 64) else 61) = 61 then 2 else 1) else 0 := by
    unfold cnt
    have e0 : 0 < (quad n k).length := by rw [quad_len]; decide
    simp only [e0, true_and]
    rfl
  rw [c]
  by_cases h3 : 3 ≤ k
  · rw [if_pos h3, if_pos h3, if_neg (m _)]
  · rw [if_neg h3, if_neg h3, if_pos rfl]
    by_cases h2 : 2 ≤ k
    · rw [if_pos h2, if_pos h2, if_neg (m _)]
    · rw [if_neg h2, if_neg h2, if_pos rfl]
/-- What was encoded is decoded. -/
theorem dec_enc : ∀ (n : Nat) (y : List Int), y.length ≤ n → Byt y → (dec (enc y)).length = y.length + cnt (enc y) ∧ (dec (enc y)).take y.length = y := by
  intro n
  induction n using Nat.strongRecOn with
  | _ n ih =>
  intro y hl hb
  match y with
  | [] => exact ⟨rfl, rfl⟩
  | [a] =>
    have h1 := (byt_cons hb).1
    have d := @dec_quad (a * 65536) 1 [] (by omega) (by omega) (by omega) (by omega)
    rw [List.append_nil] at d
    rw [enc, d, cnt_quad]
    refine ⟨rfl, ?_⟩
    have : a * 65536 / 65536 % 256 = a := by omega
    rw [this]; rfl
  | [a, b] =>
    have h1 := (byt_cons hb).1
    have h2 := (byt_cons (byt_cons hb).2).1
    have d := @dec_quad (a * 65536 + b * 256) 2 [] (by omega) (by omega) (by omega) (by omega)
    rw [List.append_nil] at d
    rw [enc, d, cnt_quad]
    refine ⟨rfl, ?_⟩
    have e1 : (a * 65536 + b * 256) / 65536 % 256 = a := by omega
    have e2 : (a * 65536 + b * 256) / 256 % 256 = b := by omega
    rw [e1, e2]; rfl
  | a :: b :: c :: r =>
    simp only [List.length_cons] at hl
    have h1 := (byt_cons hb).1
    have h2 := (byt_cons (byt_cons hb).2).1
    have h3 := byt_cons (byt_cons (byt_cons hb).2).2
    have d := @dec_quad (a * 65536 + b * 256 + c) 3 (enc r) (by omega) (by omega) (by omega) (by omega)
    obtain ⟨g1, g2⟩ := ih (n - 3) (by omega) r (by omega) h3.2
    have e1 : (a * 65536 + b * 256 + c) / 65536 % 256 = a := by omega
    have e2 : (a * 65536 + b * 256 + c) / 256 % 256 = b := by omega
    have e3 : (a * 65536 + b * 256 + c) % 256 = c := by omega
    have hc : cnt (quad (a * 65536 + b * 256 + c) 3 ++ enc r) = cnt (enc r) := by
      by_cases hr : 4 ≤ (enc r).length
      · exact cnt_app hr
      · have hz : r = [] := by
          have := (enc_len _ r (Nat.le_refl _)).1
          have : r.length = 0 := by omega
          exact List.length_eq_zero_iff.1 this
        rw [hz, enc, List.append_nil, cnt_quad]; rfl
    rw [enc, d, hc, e1, e2, e3]
    constructor
    · rw [List.length_append, g1]
      simp only [List.length_cons, List.length_nil]
      omega
    · simp only [List.length_cons, List.cons_append, List.nil_append, List.take_succ_cons, g2]

/-- The last check of both decoders. -/
theorem check_b {X : List Int} {t : ByteArray} (hX : Byt X) (hl : X.length ≤ 1000) {k : Nat} (hk : 10001 ≤ k) :
    ∃ r, ((base_Put.f k (strOfNums X)).bind fun t1 => (if t1.toList = t.toList then (some (strOfNums X, true)) else (some ((⟨#[]⟩ : ByteArray), false)))) = some r ∧ Answers t X r := by
  have hr : rest (strOfNums X) 0 = X := rest_str fun x hx => by have := hX x hx; omega
  have hp := @put_f (strOfNums X) (by rw [strOfNums_size]; exact hl) k hk
  rw [hr] at hp
  rw [hp, Option.bind_some]
  by_cases h : enc X = rest t 0
  · exact ⟨_, if_pos ((toList_iff (enc_byt X)).2 h), Or.inl ⟨rfl, h⟩⟩
  · exact ⟨_, if_neg (fun z => h ((toList_iff (enc_byt X)).1 z)), Or.inr ⟨rfl, h⟩⟩
theorem bt_rest {t : ByteArray} {i : Nat} (h : i < t.size) : (rest t 0).getD i 0 = bt t (i : Nat) := by
  have e : rest t 0 = rest t 0 := rfl
  unfold rest bt
  rw [List.drop_zero, List.getD_eq_getElem?_getD, List.getElem?_map, dif_pos (by simpa using h)]
  have h' : i < t.data.toList.length := by simpa using h
  rw [List.getElem?_eq_getElem h']
  rfl
theorem get_l2 {X : List Int} {t : ByteArray} (hX : Byt X) (hl : X.length ≤ 1000) (hs : t.size ≤ 4000) (h2 : 0 < t.size → 2 ≤ X.length ∧ 2 ≤ t.size) {k : Nat} (hk : 10010 ≤ k) :
    ∃ r, base_Get.l2 k t X 0 = some r ∧ Answers t (X.take (X.length - cnt (rest t 0))) r := by
  obtain ⟨q, hq⟩ : ∃ q, k = q + 1 + 1 + 1 := ⟨k - 3, by omega⟩
  have hrl : (rest t 0).length = t.size := by rw [rest_length]; rfl
  have byt_take : ∀ m, Byt (X.take m) := fun m x hx => hX x (List.mem_of_mem_take hx)
  have w0 : wrap64 ((0 : Int) + 1) = 1 := w64 (by decide) (by decide)
  have w1 : wrap64 ((1 : Int) + 1) = 2 := w64 (by decide) (by decide)
  by_cases hp : 0 < t.size
  · obtain ⟨h2a, h2b⟩ := h2 hp
    have a1 : wrap64 (wrap64 ((t.size : Int) - 1) - 0) = ((t.size - 1 : Nat) : Int) := by rw [w64 (n := (t.size : Int) - 1) (by omega) (by omega), w64 (by omega) (by omega)]; omega
    have a2 : wrap64 (wrap64 ((t.size : Int) - 1) - 1) = ((t.size - 2 : Nat) : Int) := by rw [w64 (n := (t.size : Int) - 1) (by omega) (by omega), w64 (by omega) (by omega)]; omega
    have b1 : wrap64 ((X.length : Int) - 1) = ((X.length - 1 : Nat) : Int) := by rw [w64 (by omega) (by omega)]; omega
    have c0 : (0 : Int) < 2 := by decide
    have c1 : (1 : Int) < 2 := by decide
    have c2 : ¬ (2 : Int) < 2 := by decide
    have d1 : (t.size : Int) > 0 := by omega
    have d2 : (t.size : Int) > 1 := by omega
    have f1 : (0 : Int) ≤ ((t.size - 1 : Nat) : Int) := by omega
    have f2 : ((t.size - 1 : Nat) : Int) < (t.size : Int) := by omega
    have f3 : (0 : Int) ≤ ((t.size - 2 : Nat) : Int) := by omega
    have f4 : ((t.size - 2 : Nat) : Int) < (t.size : Int) := by omega
    have r1 := @bt_rest t (t.size - 1) (by omega)
    have r2 := @bt_rest t (t.size - 2) (by omega)
    rw [hq, base_Get.l2, if_pos c0, if_pos d1, a1, if_pos f1, if_pos f2]
    by_cases e1 : bt t ((t.size - 1 : Nat) : Int) = 61
    · have g1 : (0 : Int) ≤ ((X.length - 1 : Nat) : Int) := by omega
      have g2 : ((X.length - 1 : Nat) : Int) ≤ (X.length : Int) := by omega
      rw [if_pos e1, b1, if_pos g1, if_pos g2, Int.toNat_natCast, w0]
      have hl1 : (X.take (X.length - 1)).length = X.length - 1 := by rw [List.length_take]; omega
      have b2 : wrap64 (((X.take (X.length - 1)).length : Int) - 1) = ((X.length - 2 : Nat) : Int) := by rw [hl1, w64 (by omega) (by omega)]; omega
      rw [base_Get.l2, if_pos c1, if_pos d2, a2, if_pos f3, if_pos f4]
      by_cases e2 : bt t ((t.size - 2 : Nat) : Int) = 61
      · have g3 : (0 : Int) ≤ ((X.length - 2 : Nat) : Int) := by omega
        have g4 : ((X.length - 2 : Nat) : Int) ≤ ((X.take (X.length - 1)).length : Int) := by rw [hl1]; omega
        have hc : cnt (rest t 0) = 2 := by unfold cnt; rw [hrl, r1, r2, if_pos ⟨hp, e1⟩, if_pos e2]
        rw [if_pos e2, b2, if_pos g3, if_pos g4, Int.toNat_natCast, w1, List.take_take, Nat.min_eq_left (by omega), base_Get.l2, if_neg c2, hc]
        exact check_b (byt_take _) (by rw [List.length_take]; omega) (by omega)
      · have hc : cnt (rest t 0) = 1 := by unfold cnt; rw [hrl, r1, r2, if_pos ⟨hp, e1⟩, if_neg e2]
        rw [if_neg e2, hc]
        exact check_b (byt_take _) (by rw [List.length_take]; omega) (by omega)
    · have hc : cnt (rest t 0) = 0 := by unfold cnt; rw [hrl, r1, if_neg (fun z => e1 z.2)]
      rw [if_neg e1, hc, Nat.sub_zero, List.take_length]
      exact check_b hX hl (by omega)
  · have c0 : (0 : Int) < 2 := by decide
    have d1 : ¬ (t.size : Int) > 0 := by omega
    have hc : cnt (rest t 0) = 0 := by unfold cnt; rw [hrl, if_neg (fun z => hp z.1)]
    rw [hq, base_Get.l2, if_pos c0, if_neg d1, hc, Nat.sub_zero, List.take_length]
    exact check_b hX hl (by omega)
/-- A decoder's law: what it answers, and that it finds what was encoded. -/
def Law (t : ByteArray) (r : ByteArray × Bool) : Prop := (r = (⟨#[]⟩, false) ∨ ∃ X, Byt X ∧ r = (strOfNums X, true) ∧ enc X = rest t 0) ∧ ∀ y, Byt y → enc y = rest t 0 → r = (strOfNums y, true)
theorem law_of {t : ByteArray} {X : List Int} {r : ByteArray × Bool} (hX : Byt X) (h : Answers t X r) (hy : ∀ y, Byt y → enc y = rest t 0 → X = y) : Law t r := by
  rcases h with ⟨h1, h2⟩ | ⟨h1, h2⟩
  · refine ⟨Or.inr ⟨X, hX, h1, h2⟩, fun y a b => ?_⟩
    rw [← hy y a b]; exact h1
  · refine ⟨Or.inl h1, fun y a b => ?_⟩
    exact absurd (by rw [hy y a b]; exact b) h2
theorem law_eq {t : ByteArray} {r s : ByteArray × Bool} (hr : Law t r) (hs : Law t s) : r = s := by
  rcases hr.1 with h | ⟨X, a, b, c⟩
  · rcases hs.1 with g | ⟨Y, a, b, c⟩
    · rw [h, g]
    · rw [hr.2 Y a c, b]
  · rw [b, hs.2 X a c]
theorem get_f {t : ByteArray} (hs : t.size ≤ 1000) {k : Nat} (hk : 20000 ≤ k) : ∃ r, base_Get.f k t = some r ∧ Law t r := by
  unfold base_Get.f
  have hrl : (rest t 0).length = t.size := by rw [rest_length]; rfl
  by_cases h4 : (t.size : Int) % 4 = 0
  · rw [if_pos h4]
    obtain ⟨q, hq⟩ : ∃ q, k = q + 6 * (t.size / 4) + 1 := ⟨k - 6 * (t.size / 4) - 1, by omega⟩
    have h0 := @get_l0 t (by omega) (by omega) (t.size / 4) 0 [] q (by omega) (by omega) (by rw [List.length_nil]; omega) (by omega)
    have h0' : base_Get.l0 (q + 6 * (t.size / 4) + 1) t [] 0 = base_Get.l2 q t ([] ++ dec (rest t 0)) 0 := h0
    obtain ⟨d1, d2⟩ := dec_byt _ (rest t 0) (Nat.le_refl _)
    rw [hrl] at d2
    obtain ⟨r, g1, g2⟩ := @get_l2 (dec (rest t 0)) t d1 (by omega) (by omega) (by omega) q (by omega)
    rw [hq, h0', List.nil_append]
    refine ⟨r, g1, law_of (fun x hx => d1 x (List.mem_of_mem_take hx)) g2 fun y hy he => ?_⟩
    obtain ⟨e1, e2⟩ := dec_enc _ y (Nat.le_refl _) hy
    rw [← he, e1, Nat.add_sub_cancel, e2]
  · rw [if_neg h4]
    refine ⟨_, rfl, Or.inl rfl, fun y hy he => ?_⟩
    have := (enc_len _ y (Nat.le_refl _)).1
    rw [he, hrl] at this
    omega

end Go.Proofs.YtiebldaihnbkmaaGreatDoor.Pure

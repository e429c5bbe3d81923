/-
  What is proved here: the plain statement behind rotuluslaw14.BaseLen: four signs for each three bytes, and as many fill signs as bytes are missing. No conditions beyond its own.
-/
import Derived.Test.YtiebldaihnbkmaaGreatDoorPureBase0
set_option linter.unusedVariables false
set_option linter.unusedSimpArgs false
namespace Go.Proofs.YtiebldaihnbkmaaGreatDoor.Pure
open Go.RowKit Go.Proofs.YtiebldaihnbkmaaGreatDoor.PBase Go.Proofs.YtiebldaihnbkmaaGreatDoorW.PrintWords Go.Proofs.YtiebldaihnbkmaaGreatDoorW.PrintLast Go.Proofs.YtiebldaihnbkmaaGreatDoorW.PrintMore

def fills (l : List Int) : Nat := (l.filter fun x => x == 61).length
theorem fills_append (l m : List Int) : fills (l ++ m) = fills l + fills m := by unfold fills; rw [List.filter_append, List.length_append]
theorem quad_len (n k : Int) : (quad n k).length = 4 := rfl
theorem quad_fills {n k : Int} : fills (quad n k) = (if 2 ≤ k then 0 else 1) + (if 3 ≤ k then 0 else 1) := by
  have m (x : Int) : sgI (x % 64) ≠ 61 := (sgI_range (n := x % 64) (by omega) (by omega)).2.2
  have b (x : Int) : (sgI (x % 64) == 61) = false := by simpa using m x
  unfold quad fills
  by_cases h2 : 2 ≤ k <;> by_cases h3 : 3 ≤ k <;> simp [List.filter_cons, b, h2, h3]
theorem enc_len : ∀ (m : Nat) (l : List Int), l.length ≤ m → (enc l).length = (l.length + 2) / 3 * 4 ∧ fills (enc l) = (3 - l.length % 3) % 3 := by
  intro m
  induction m using Nat.strongRecOn with
  | _ m ih =>
  intro l hl
  match l with
  | [] => exact ⟨rfl, rfl⟩
  | [a] => exact ⟨by rw [enc, quad_len]; simp, by rw [enc, quad_fills]; rfl⟩
  | [a, b] => exact ⟨by rw [enc, quad_len]; simp, by rw [enc, quad_fills]; rfl⟩
  | a :: b :: c :: r =>
    simp only [List.length_cons] at hl ⊢
    obtain ⟨h1, h2⟩ := ih (m - 3) (by omega) r (by omega)
    rw [enc, List.length_append, quad_len, fills_append, quad_fills, h1, h2]
    constructor
    · omega
    · rw [if_pos (by decide), if_pos (by decide)]; omega
theorem enc_range : ∀ (m : Nat) (l : List Int), l.length ≤ m → ∀ x ∈ enc l, 43 ≤ x ∧ x ≤ 122 := by
  intro m
  have sq : ∀ n k, ∀ x ∈ quad n k, 43 ≤ x ∧ x ≤ 122 := by
    intro n k x hx
    have r (y : Int) := sgI_range (n := y % 64) (by omega) (by omega)
    unfold quad at hx
    simp only [List.mem_cons, List.mem_nil_iff, or_false] at hx
    rcases hx with rfl | rfl | rfl | rfl
    · exact ⟨(r _).1, (r _).2.1⟩
    · exact ⟨(r _).1, (r _).2.1⟩
    · split
      · exact ⟨(r _).1, (r _).2.1⟩
      · decide
    · split
      · exact ⟨(r _).1, (r _).2.1⟩
      · decide
  induction m using Nat.strongRecOn with
  | _ m ih =>
  intro l hl x hx
  match l with
  | [] => simp [enc] at hx
  | [a] => exact sq _ _ x hx
  | [a, b] => exact sq _ _ x hx
  | a :: b :: c :: r =>
    simp only [List.length_cons] at hl
    rw [enc, List.mem_append] at hx
    rcases hx with hx | hx
    · exact sq _ _ x hx
    · exact ih (m - 3) (by omega) r (by omega) x hx
/-- A string made of numbers that are bytes: its numbers again. -/
theorem rest_str {l : List Int} (h : ∀ x ∈ l, 0 ≤ x ∧ x ≤ 255) : rest (strOfNums l) 0 = l := by
  unfold rest
  rw [List.drop_zero, strOfNums_data, List.map_map]
  conv => rhs; rw [← List.map_id l]
  refine List.map_congr_left fun x hx => ?_
  obtain ⟨h0, h1⟩ := h x hx
  simp only [Function.comp, id]
  have e : (UInt8.ofNat x.toNat).toNat = x.toNat % 256 := UInt8.toNat_ofNat'
  rw [e]
  omega

theorem fills_cons (x : Int) (l : List Int) : fills (x :: l) = (if x = 61 then 1 else 0) + fills l := by
  unfold fills
  by_cases h : x = 61
  · simp [List.filter_cons, h]; omega
  · have : (x == 61) = false := by simpa using h
    simp [List.filter_cons, this, h]
theorem len_l0 {s p : ByteArray} (hp : p.size ≤ 4000) (hs : s.size ≤ 1000) (h1 : p.size = (s.size + 2) / 3 * 4) : ∀ (m i : Nat) (n : Nat) (k : Nat), p.size - i ≤ m → i ≤ p.size → n ≤ i → m < k → n + fills (rest p i) = (3 - s.size % 3) % 3 →
    rotuluslaw14_BaseLen.l0 k s p n i = some true := by
  intro m
  induction m with
  | zero =>
    intro i n k hm hi hn hk hf
    obtain ⟨k, rfl⟩ : ∃ q, k = q + 1 := ⟨k - 1, by omega⟩
    have hip : i = p.size := by omega
    rw [rest_end (by omega)] at hf
    have hf : n = (3 - s.size % 3) % 3 := by simpa [fills] using hf
    rw [rotuluslaw14_BaseLen.l0, if_neg (by omega), w64 (n := (s.size : Int) + 2) (by omega) (by omega), Int.tdiv_eq_ediv_of_nonneg (by omega), w64 (n := ((s.size : Int) + 2) / 3) (by omega) (by omega), w64 (n := ((s.size : Int) + 2) / 3 * 4) (by omega) (by omega), if_pos (by omega)]
    congr 1
    rw [beq_iff_eq]; omega
  | succ m ih =>
    intro i n k hm hi hn hk hf
    by_cases hlt : i < p.size
    · obtain ⟨k, rfl⟩ : ∃ q, k = q + 1 := ⟨k - 1, by omega⟩
      rw [rest_cons hlt, fills_cons] at hf
      rw [rotuluslaw14_BaseLen.l0, if_pos (by omega), if_pos (by omega), w64 (n := (i : Int) + 1) (by omega) (by omega), w64 (n := (n : Int) + 1) (by omega) (by omega)]
      by_cases hc : bt p (i : Int) = 61
      · rw [if_pos hc] at hf
        rw [if_pos hc]
        have := ih (i + 1) (n + 1) k (by omega) (by omega) (by omega) (by omega) (by omega)
        simpa using this
      · rw [if_neg hc] at hf
        rw [if_neg hc]
        have := ih (i + 1) n k (by omega) (by omega) (by omega) (by omega) (by omega)
        simpa using this
    · have := ih i n k (by omega) hi hn (by omega) hf
      exact this
theorem BaseLen : rotuluslaw14_BaseLen.Pure := by
  intro s hn
  obtain ⟨t, ht, hts, htl⟩ := short_f (s := s) (n := 100)
  have hsz : t.size ≤ 100 := by omega
  have hrl := rest_length t 0
  obtain ⟨e1, e2⟩ := enc_len _ (rest t 0) (Nat.le_refl _)
  have er : rest (strOfNums (enc (rest t 0))) 0 = enc (rest t 0) := rest_str fun x hx => by have := enc_range _ (rest t 0) (Nat.le_refl _) x hx; omega
  have es : (strOfNums (enc (rest t 0))).size = (t.size + 2) / 3 * 4 := by rw [strOfNums_size, e1, hrl]; rfl
  obtain ⟨K, hK⟩ : ∃ K : Nat, 20000 ≤ K := ⟨_, Nat.le_refl _⟩
  refine ⟨K, ?_⟩
  unfold rotuluslaw14_BaseLen.f rotuluslaw14_begun.f
  have ht' : rotuluslaw1_Short.f s 100 = some t := ht
  simp only [Option.bind_some, if_true]
  rw [ht']
  simp only [Option.bind_some]
  rw [put_f (by omega) (by omega)]
  simp only [Option.bind_some]
  have := len_l0 (s := t) (p := strOfNums (enc (rest t 0))) (by omega) (by omega) es 4000 0 0 K (by omega) (by omega) (by omega) (by omega) (by rw [er, e2, hrl]; simp)
  simpa using this

end Go.Proofs.YtiebldaihnbkmaaGreatDoor.Pure

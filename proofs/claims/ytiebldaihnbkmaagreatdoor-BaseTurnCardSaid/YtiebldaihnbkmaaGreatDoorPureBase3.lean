/-
  What is proved here: values of signs; the first loops of both decoders. Conditions: texts are not too long.
-/
import Derived.Test.YtiebldaihnbkmaaGreatDoorPureBase1
set_option linter.unusedVariables false
set_option linter.unusedSimpArgs false
namespace Go.Proofs.YtiebldaihnbkmaaGreatDoor.Pure
open Go.RowKit Go.Proofs.YtiebldaihnbkmaaGreatDoor.PBase Go.Proofs.YtiebldaihnbkmaaGreatDoorW.PrintWords Go.Proofs.YtiebldaihnbkmaaGreatDoorW.PrintLast Go.Proofs.YtiebldaihnbkmaaGreatDoorW.PrintMore

/-- A sign's value; 64: none. -/
def vI (c : Int) : Int := if 65 ≤ c ∧ c ≤ 90 then c - 65 else if 97 ≤ c ∧ c ≤ 122 then c - 71 else if 48 ≤ c ∧ c ≤ 57 then c + 4 else if c = 43 then 62 else if c = 47 then 63 else 64
theorem vI_range (c : Int) : 0 ≤ vI c ∧ vI c ≤ 64 := by unfold vI; repeat' split
                                                        all_goals omega
theorem sg_iff {n c : Int} (h0 : 0 ≤ n) (h1 : n < 64) : sgI n = c ↔ vI c = n := by
  unfold sgI vI
  repeat' split
  all_goals omega
theorem vI_sg {n : Int} (h0 : 0 ≤ n) (h1 : n < 64) : vI (sgI n) = n := (sg_iff h0 h1).1 rfl
theorem vI_61 : vI 61 = 64 := by decide
theorem bits_l0 {c : Int} : ∀ (m : Nat) (x : Nat) (k : Nat), 64 - x = m → x ≤ 64 → (x : Int) ≤ vI c → m < k → base_bits.l0 k c x = some (vI c) := by
  have hv := vI_range c
  intro m
  induction m with
  | zero =>
    intro x k hm hx hle hk
    obtain ⟨q, hq⟩ : ∃ q, k = q + 1 := ⟨k - 1, by omega⟩
    have e : ¬ (x : Int) < 64 := by omega
    rw [hq, base_bits.l0, if_neg e]
    congr 1; omega
  | succ m ih =>
    intro x k hm hx hle hk
    obtain ⟨q, hq⟩ : ∃ q, k = q + 1 := ⟨k - 1, by omega⟩
    have e : (x : Int) < 64 := by omega
    have e0 : (0 : Int) ≤ x := by omega
    rw [hq, base_bits.l0, if_pos e, sign_f e0 e, Option.bind_some]
    by_cases h : sgI (x : Int) = c
    · rw [if_pos h, (sg_iff e0 e).1 h]
    · have h2 : vI c ≠ (x : Int) := fun z => h ((sg_iff e0 e).2 z)
      have e3 : ((x : Int) + 1) % 256 = ((x + 1 : Nat) : Int) := by omega
      rw [if_neg h, e3]
      exact ih (x + 1) q (by omega) (by omega) (by omega) (by omega)
theorem bits_f {c : Int} {k : Nat} (hk : 65 ≤ k) : base_bits.f k c = some (vI c) := by
  unfold base_bits.f
  exact bits_l0 64 0 k rfl (by decide) (vI_range c).1 (by omega)

/-- A sign's value, 0 for none. -/
def v0 (c : Int) : Int := if vI c < 64 then vI c else 0
theorem v0_range (c : Int) : 0 ≤ v0 c ∧ v0 c < 64 := by have := vI_range c; unfold v0; split <;> omega
theorem get_l1 {k : Nat} {x0 : ByteArray} {acc : List Int} {i j : Nat} {n : Int} (hj : j < 4) (hi : i + j < x0.size) (hs : x0.size ≤ 4000) (hk : 65 ≤ k) (h0 : 0 ≤ n) (h1 : n < 16777216) :
    base_Get.l1 (k + 1) x0 acc i n j = base_Get.l1 k x0 acc i (n * 64 + v0 (bt x0 ((i + j : Nat) : Int))) ((j + 1 : Nat) : Int) := by
  have w1 : wrap64 ((i : Int) + (j : Int)) = ((i + j : Nat) : Int) := by rw [w64 (by omega) (by omega)]; omega
  have w2 : wrap64 ((j : Int) + 1) = ((j + 1 : Nat) : Int) := by rw [w64 (by omega) (by omega)]; omega
  have w3 : wrap64 (n * 64) = n * 64 := w64 (by omega) (by omega)
  obtain ⟨c, hc⟩ : ∃ c, c = bt x0 ((i + j : Nat) : Int) := ⟨_, rfl⟩
  have hv := vI_range c
  have w4 : wrap64 (vI c) = vI c := w64 (by omega) (by omega)
  have c1 : (j : Int) < 4 := by omega
  have c2 : (0 : Int) ≤ ((i + j : Nat) : Int) := by omega
  have c3 : ((i + j : Nat) : Int) < (x0.size : Int) := by omega
  rw [base_Get.l1, if_pos c1, w1, if_pos c2, if_pos c3, ← hc, bits_f hk, Option.bind_some, w2, w3, w4]
  by_cases h : vI c < 64
  · have e : v0 c = vI c := by unfold v0; rw [if_pos h]
    rw [if_pos h, or_six h0 h1 hv.1 h, e]
  · have e : v0 c = 0 := by unfold v0; rw [if_neg h]
    rw [if_neg h, e, Int.add_zero]
def qn (a b c d : Int) : Int := ((v0 a * 64 + v0 b) * 64 + v0 c) * 64 + v0 d
def dec : List Int → List Int
  | a :: b :: c :: d :: r => [qn a b c d / 65536 % 256, qn a b c d / 256 % 256, qn a b c d % 256] ++ dec r
  | _ => []
theorem get_four {k : Nat} {x0 : ByteArray} {acc : List Int} {i : Nat} (hi : i + 4 ≤ x0.size) (hs : x0.size ≤ 4000) (hk : 65 ≤ k) (ha : acc.length ≤ 100000) :
    base_Get.l0 (k + 1 + 4 + 1) x0 acc i = base_Get.l0 k x0 (acc ++ [qn (bt x0 (i : Nat)) (bt x0 ((i + 1 : Nat) : Int)) (bt x0 ((i + 2 : Nat) : Int)) (bt x0 ((i + 3 : Nat) : Int)) / 65536 % 256, qn (bt x0 (i : Nat)) (bt x0 ((i + 1 : Nat) : Int)) (bt x0 ((i + 2 : Nat) : Int)) (bt x0 ((i + 3 : Nat) : Int)) / 256 % 256, qn (bt x0 (i : Nat)) (bt x0 ((i + 1 : Nat) : Int)) (bt x0 ((i + 2 : Nat) : Int)) (bt x0 ((i + 3 : Nat) : Int)) % 256]) ((i + 4 : Nat) : Int) := by
  have c1 : (i : Int) < (x0.size : Int) := by omega
  have r0 := v0_range (bt x0 (i : Nat))
  have r1 := v0_range (bt x0 ((i + 1 : Nat) : Int))
  have r2 := v0_range (bt x0 ((i + 2 : Nat) : Int))
  have r3 := v0_range (bt x0 ((i + 3 : Nat) : Int))
  have s0 := @get_l1 (k + 1 + 3) x0 acc i 0 0 (by decide) (by omega) hs (by omega) (by decide) (by decide)
  have s1 := @get_l1 (k + 1 + 2) x0 acc i 1 (v0 (bt x0 (i : Nat))) (by decide) (by omega) hs (by omega) (by omega) (by omega)
  have s2 := @get_l1 (k + 1 + 1) x0 acc i 2 (v0 (bt x0 (i : Nat)) * 64 + v0 (bt x0 ((i + 1 : Nat) : Int))) (by decide) (by omega) hs (by omega) (by omega) (by omega)
  have s3 := @get_l1 (k + 1) x0 acc i 3 ((v0 (bt x0 (i : Nat)) * 64 + v0 (bt x0 ((i + 1 : Nat) : Int))) * 64 + v0 (bt x0 ((i + 2 : Nat) : Int))) (by decide) (by omega) hs (by omega) (by omega) (by omega)
  have z0 : (0 : Int) * 64 + v0 (bt x0 ((i + 0 : Nat) : Int)) = v0 (bt x0 (i : Nat)) := by rw [Nat.add_zero]; omega
  rw [z0] at s0
  have w : wrap64 ((i : Int) + 4) = ((i + 4 : Nat) : Int) := by rw [w64 (by omega) (by omega)]; omega
  have cl (l : List Int) (h : l.length = 3) : acc.length + l.length < 140737488355328 := by omega
  rw [base_Get.l0, if_pos c1]
  refine (s0.trans (s1.trans (s2.trans (s3.trans ?_))))
  have c4 : ¬ (((3 + 1 : Nat) : Int) < 4) := by decide
  rw [base_Get.l1, if_neg c4, Option.bind_some, if_pos (cl _ rfl), w]
  rfl
theorem get_l0 {x0 : ByteArray} (hs : x0.size ≤ 4000) (h4 : x0.size % 4 = 0) : ∀ (m i : Nat) (acc : List Int) (k : Nat), x0.size - i = 4 * m → i ≤ x0.size → acc.length + 3 * m ≤ 100000 → 65 ≤ k →
    base_Get.l0 (k + 6 * m + 1) x0 acc i = base_Get.l2 k x0 (acc ++ dec (rest x0 i)) 0 := by
  intro m
  induction m with
  | zero =>
    intro i acc k hm hi hl hk
    have c1 : ¬ (i : Int) < (x0.size : Int) := by omega
    rw [Nat.mul_zero, Nat.add_zero, base_Get.l0, if_neg c1, rest_end (by omega), dec, List.append_nil]
    intro a b c d r h; cases h
  | succ m ih =>
    intro i acc k hm hi hl hk
    have ek : k + 6 * (m + 1) + 1 = (k + 6 * m + 1) + 1 + 4 + 1 := by omega
    have st := @get_four (k + 6 * m + 1) x0 acc i (by omega) hs (by omega) (by omega)
    rw [ek, st]
    have h2 := fun acc' (h : acc'.length = acc.length + 3) => ih (i + 4) acc' k (by omega) (by omega) (by omega) hk
    rw [h2 _ (by rw [List.length_append]; rfl)]
    rw [rest_cons (show i < x0.size by omega), rest_cons (show i + 1 < x0.size by omega), rest_cons (show i + 1 + 1 < x0.size by omega), rest_cons (show i + 1 + 1 + 1 < x0.size by omega), dec, List.append_assoc]

end Go.Proofs.YtiebldaihnbkmaaGreatDoor.Pure

/-
  What is proved here: the reference's encoder writes what base.Put writes. Conditions: the text is not too long.
-/
import Derived.Test.YtiebldaihnbkmaaGreatDoorPureBase2
import Derived.Test.YtiebldaihnbkmaaGreatDoorPureBase3
import Derived.Laws.Strings
set_option linter.unusedVariables false
set_option linter.unusedSimpArgs false
namespace Go.Proofs.YtiebldaihnbkmaaGreatDoor.Pure
open Go.RowKit Go.Proofs.YtiebldaihnbkmaaGreatDoor.PBase Go.Proofs.YtiebldaihnbkmaaGreatDoorW.PrintWords Go.Proofs.YtiebldaihnbkmaaGreatDoorW.PrintLast Go.Proofs.YtiebldaihnbkmaaGreatDoorW.PrintMore

def bits6 (v : Int) : List Int := [v / 32 % 2, v / 16 % 2, v / 8 % 2, v / 4 % 2, v / 2 % 2, v % 2]
def Byt (l : List Int) : Prop := ∀ x ∈ l, 0 ≤ x ∧ x < 256
theorem byt_cons {a : Int} {l : List Int} (h : Byt (a :: l)) : (0 ≤ a ∧ a < 256) ∧ Byt l := ⟨h a (by simp), fun x hx => h x (by simp [hx])⟩
theorem quad_bits {a b c : Int} (ha : 0 ≤ a ∧ a < 256) (hb : 0 ≤ b ∧ b < 256) (hc : 0 ≤ c ∧ c < 256) :
    bits8 a ++ (bits8 b ++ bits8 c) = bits6 ((a * 65536 + b * 256 + c) / 262144 % 64) ++ (bits6 ((a * 65536 + b * 256 + c) / 4096 % 64) ++ (bits6 ((a * 65536 + b * 256 + c) / 64 % 64) ++ bits6 ((a * 65536 + b * 256 + c) % 64))) := by
  unfold bits8 bits6
  simp only [List.cons_append, List.nil_append, List.cons.injEq, and_true]
  refine ⟨?_, ?_, ?_, ?_, ?_, ?_, ?_, ?_, ?_, ?_, ?_, ?_, ?_, ?_, ?_, ?_, ?_, ?_, ?_, ?_, ?_, ?_, ?_, ?_⟩ <;> omega
theorem six_bits {v : Int} (h : 0 ≤ v ∧ v < 64) (r : List Int) : six (bits6 v ++ r) = v := by
  unfold six bits6
  simp only [List.cons_append, List.getD_cons_zero, List.getD_cons_succ]
  omega
theorem sixes_bits {v : Int} (h : 0 ≤ v ∧ v < 64) (r : List Int) (m : Nat) : sixes (m + 1) (bits6 v ++ r) = sgI v :: sixes m r := by
  have hne : bits6 v ++ r ≠ [] := by unfold bits6; simp
  have hd : (bits6 v ++ r).drop 6 = r := rfl
  rw [sixes, if_neg hne, six_bits h, hd]
theorem pad4_quad (n : Int) (l : List Int) : pad4 (quad n 3 ++ l) = quad n 3 ++ pad4 l := by
  unfold pad4
  have e : (4 - (quad n 3 ++ l).length % 4) % 4 = (4 - l.length % 4) % 4 := by rw [List.length_append, quad_len]; omega
  rw [e, List.append_assoc]
theorem mod64 (x : Int) : 0 ≤ x % 64 ∧ x % 64 < 64 := by omega
theorem enc_one {a : Int} (ha : 0 ≤ a ∧ a < 256) (m : Nat) : pad4 (sixes (m + 2) (bits8 a)) = quad (a * 65536) 1 := by
  have e1 : bits8 a = bits6 (a * 65536 / 262144 % 64) ++ [a / 2 % 2, a % 2] := by
    unfold bits8 bits6
    simp only [List.cons_append, List.nil_append, List.cons.injEq, and_true]
    refine ⟨?_, ?_, ?_, ?_, ?_, ?_⟩ <;> omega
  have e2 : six [a / 2 % 2, a % 2] = a * 65536 / 4096 % 64 := by
    unfold six
    simp only [List.getD_cons_zero, List.getD_cons_succ, List.getD_nil]
    omega
  rw [e1, sixes_bits (mod64 _), sixes, if_neg (by simp), e2]
  have e3 : List.drop 6 [a / 2 % 2, a % 2] = [] := rfl
  rw [e3, sixes_nil]
  rfl
theorem enc_two {a b : Int} (ha : 0 ≤ a ∧ a < 256) (hb : 0 ≤ b ∧ b < 256) (m : Nat) : pad4 (sixes (m + 3) (bits8 a ++ bits8 b)) = quad (a * 65536 + b * 256) 2 := by
  have e1 : bits8 a ++ bits8 b = bits6 ((a * 65536 + b * 256) / 262144 % 64) ++ (bits6 ((a * 65536 + b * 256) / 4096 % 64) ++ [b / 8 % 2, b / 4 % 2, b / 2 % 2, b % 2]) := by
    unfold bits8 bits6
    simp only [List.cons_append, List.nil_append, List.cons.injEq, and_true]
    refine ⟨?_, ?_, ?_, ?_, ?_, ?_, ?_, ?_, ?_, ?_, ?_, ?_⟩ <;> omega
  have e2 : six [b / 8 % 2, b / 4 % 2, b / 2 % 2, b % 2] = (a * 65536 + b * 256) / 64 % 64 := by
    unfold six
    simp only [List.getD_cons_zero, List.getD_cons_succ, List.getD_nil]
    omega
  rw [e1, sixes_bits (mod64 _), sixes_bits (mod64 _), sixes, if_neg (by simp), e2]
  have e3 : List.drop 6 [b / 8 % 2, b / 4 % 2, b / 2 % 2, b % 2] = [] := rfl
  rw [e3, sixes_nil]
  rfl
theorem sixes_enc : ∀ (n : Nat) (l : List Int) (m : Nat), l.length ≤ n → Byt l → 2 * l.length ≤ m → pad4 (sixes m (bitL l)) = enc l := by
  intro n
  induction n using Nat.strongRecOn with
  | _ n ih =>
  intro l m hl hb hm
  match l with
  | [] => rw [bitL, sixes_nil]; rfl
  | [a] =>
    obtain ⟨q, hq⟩ : ∃ q, m = q + 2 := ⟨m - 2, by simp at hm; omega⟩
    rw [hq, bitL, bitL, List.append_nil, enc_one (byt_cons hb).1, enc]
  | [a, b] =>
    obtain ⟨q, hq⟩ : ∃ q, m = q + 3 := ⟨m - 3, by simp at hm; omega⟩
    rw [hq, bitL, bitL, bitL, List.append_nil, enc_two (byt_cons hb).1 (byt_cons (byt_cons hb).2).1, enc]
  | a :: b :: c :: r =>
    simp only [List.length_cons] at hl hm
    obtain ⟨q, hq⟩ : ∃ q, m = q + 1 + 1 + 1 + 1 := ⟨m - 4, by omega⟩
    have h3 := byt_cons (byt_cons (byt_cons hb).2).2
    have e : bitL (a :: b :: c :: r) = bits6 ((a * 65536 + b * 256 + c) / 262144 % 64) ++ (bits6 ((a * 65536 + b * 256 + c) / 4096 % 64) ++ (bits6 ((a * 65536 + b * 256 + c) / 64 % 64) ++ (bits6 ((a * 65536 + b * 256 + c) % 64) ++ bitL r))) := by
      have := congrArg (· ++ bitL r) (quad_bits (byt_cons hb).1 (byt_cons (byt_cons hb).2).1 h3.1)
      simpa only [bitL, List.append_assoc] using this
    rw [hq, e, sixes_bits (mod64 _), sixes_bits (mod64 _), sixes_bits (mod64 _), sixes_bits (mod64 _), enc]
    have e2 : ∀ s, sgI ((a * 65536 + b * 256 + c) / 262144 % 64) :: sgI ((a * 65536 + b * 256 + c) / 4096 % 64) :: sgI ((a * 65536 + b * 256 + c) / 64 % 64) :: sgI ((a * 65536 + b * 256 + c) % 64) :: s = quad (a * 65536 + b * 256 + c) 3 ++ s := fun s => rfl
    rw [e2, pad4_quad, ih (n - 3) (by omega) r q (by omega) h3.2 (by omega)]
theorem bin_bitL : ∀ l : List Int, Bin (bitL l)
  | [] => fun x hx => by simp [bitL] at hx
  | a :: l => fun x hx => by
    rw [bitL, List.mem_append] at hx
    rcases hx with hx | hx
    · unfold bits8 at hx
      simp only [List.mem_cons, List.mem_nil_iff, or_false] at hx
      rcases hx with rfl | rfl | rfl | rfl | rfl | rfl | rfl | rfl <;> omega
    · exact bin_bitL l x hx
theorem byt_rest (s : ByteArray) (i : Nat) : Byt (rest s i) := by
  intro x hx
  unfold rest at hx
  obtain ⟨b, -, rfl⟩ := List.mem_map.1 hx
  have := b.toNat_lt
  omega
theorem str_nil : (⟨#[]⟩ : ByteArray) = strOfNums [] := rfl
/-- The reference's encoder. -/
theorem put_rf {t : ByteArray} (hs : t.size ≤ 1000) {k : Nat} (hk : 100000 ≤ k) : rotulusref22_Put.f k t = some (strOfNums (enc (rest t 0))) := by
  have hbl : (bitL (rest t 0)).length = 8 * t.size := by rw [bitL_length, rest_length]; rfl
  obtain ⟨q, hq⟩ : ∃ q, k = q + 10 * t.size + 1 := ⟨k - 10 * t.size - 1, by omega⟩
  unfold rotulusref22_Put.f
  have h1 := @put_l0r t hs t.size 0 [] q rfl (Nat.zero_le _) (by rw [List.length_nil]; omega)
  have h1' : rotulusref22_Put.l0 (q + 10 * t.size + 1) t [] 0 = rotulusref22_Put.l2 q ([] ++ bitL (rest t 0)) ⟨#[]⟩ 0 := h1
  rw [hq, h1', List.nil_append, str_nil]
  obtain ⟨k', g1, g2⟩ := put_l2r (bin_bitL (rest t 0)) (by omega) (8 * t.size) 0 [] q (by omega) (by rw [List.length_nil]; omega) (by omega)
  have g2' : rotulusref22_Put.l2 q (bitL (rest t 0)) (strOfNums []) 0 = rotulusref22_Put.l4 k' (strOfNums ([] ++ sixes (8 * t.size) ((bitL (rest t 0)).drop 0))) := g2
  rw [g2', List.nil_append, List.drop_zero]
  have hl := sixes_le (8 * t.size) (bitL (rest t 0))
  have h4 := put_l4 _ (sixes (8 * t.size) (bitL (rest t 0))) k' rfl (by omega) (by omega)
  rw [h4, sixes_enc _ (rest t 0) (8 * t.size) (Nat.le_refl _) (byt_rest t 0) (by rw [rest_length]; omega)]

theorem rest_inj {s t : ByteArray} (h : rest s 0 = rest t 0) : s.data.toList = t.data.toList := by
  unfold rest at h
  rw [List.drop_zero, List.drop_zero] at h
  refine List.map_inj_right (f := fun b : UInt8 => (b.toNat : Int)) ?_ |>.1 h
  intro x y e
  have e' : x.toNat = y.toNat := by have : (x.toNat : Int) = (y.toNat : Int) := e; omega
  exact UInt8.toNat_inj.1 e'
theorem toList_iff {l : List Int} (hl : Byt l) {t : ByteArray} : (strOfNums l).toList = t.toList ↔ l = rest t 0 := by
  rw [ByteArray.toList_eq, ByteArray.toList_eq]
  have hr : rest (strOfNums l) 0 = l := rest_str fun x hx => by have := hl x hx; omega
  constructor
  · intro h
    have : rest (strOfNums l) 0 = rest t 0 := by unfold rest; rw [h]
    rw [← this, hr]
  · intro h
    exact rest_inj (by rw [hr, h])
theorem enc_byt (l : List Int) : Byt (enc l) := fun x hx => by have := enc_range _ l (Nat.le_refl _) x hx; omega

end Go.Proofs.YtiebldaihnbkmaaGreatDoor.Pure

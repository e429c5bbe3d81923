/-
  What is proved here: what the plain functions behind base.Put come to: the signs of a list of bytes, three by three. Conditions: the bytes are bytes, and not too many.
-/
import Derived.Test.YtiebldaihnbkmaaGreatDoorPBasex4
set_option linter.unusedVariables false
set_option linter.unusedSimpArgs false
namespace Go.Proofs.YtiebldaihnbkmaaGreatDoor.Pure
open Go.RowKit Go.Proofs.YtiebldaihnbkmaaGreatDoor.PBase Go.Proofs.YtiebldaihnbkmaaGreatDoorW.PrintWords Go.Proofs.YtiebldaihnbkmaaGreatDoorW.PrintLast Go.Proofs.YtiebldaihnbkmaaGreatDoorW.PrintMore

def sgI (n : Int) : Int := if n < 26 then 65 + n else if n < 52 then 71 + n else if n < 62 then n - 4 else if n = 62 then 43 else 47
theorem sign_f {n : Int} (h0 : 0 ≤ n) (h1 : n < 64) : base_sign.f n = some (sgI n) := by
  unfold base_sign.f sgI
  by_cases a : n < 26
  · rw [if_pos a, if_pos a]; congr 1; omega
  · rw [if_neg a, if_neg a]
    by_cases b : n < 52
    · rw [if_pos b, if_pos b]; congr 1; omega
    · rw [if_neg b, if_neg b]
      by_cases c : n < 62
      · rw [if_pos c, if_pos c]; congr 1; omega
      · rw [if_neg c, if_neg c]
        by_cases d : n = 62
        · rw [if_pos d, if_pos d]
        · rw [if_neg d, if_neg d]
theorem sgI_range {n : Int} (h0 : 0 ≤ n) (h1 : n < 64) : 43 ≤ sgI n ∧ sgI n ≤ 122 ∧ sgI n ≠ 61 := by unfold sgI; split <;> (try split) <;> (try split) <;> (try split) <;> omega

/-- Four signs of three bytes in one number; k of the bytes are there. -/
def quad (n : Int) (k : Int) : List Int := [sgI (n / 262144 % 64), sgI (n / 4096 % 64), if 2 ≤ k then sgI (n / 64 % 64) else 61, if 3 ≤ k then sgI (n % 64) else 61]
def enc : List Int → List Int
  | [] => []
  | [a] => quad (a * 65536) 1
  | [a, b] => quad (a * 65536 + b * 256) 2
  | a :: b :: c :: r => quad (a * 65536 + b * 256 + c) 3 ++ enc r
/-- A string's bytes from a place on. -/
def rest (s : ByteArray) (i : Nat) : List Int := (s.data.toList.drop i).map fun b => (b.toNat : Int)
theorem rest_cons {s : ByteArray} {i : Nat} (h : i < s.size) : rest s i = bt s i :: rest s (i + 1) := by
  unfold rest
  rw [List.drop_eq_getElem_cons (by simpa using h)]
  simp only [List.map_cons, List.cons.injEq, and_true]
  unfold bt
  rw [dif_pos (by simpa using h)]
  rfl
theorem rest_end {s : ByteArray} {i : Nat} (h : s.size ≤ i) : rest s i = [] := by
  unfold rest
  rw [List.drop_of_length_le (by simpa using h)]; rfl
theorem rest_length (s : ByteArray) (i : Nat) : (rest s i).length = s.size - i := by
  unfold rest; rw [List.length_map, List.length_drop]; rfl

theorem w64 {n : Int} (h0 : -9223372036854775808 ≤ n) (h1 : n ≤ 9223372036854775807) : wrap64 n = n := by unfold wrap64; omega
theorem wr31 (n : Int) (h0 : 0 ≤ n) (h1 : n < 2 ^ 31) : IntKind.i64.wrap n = n := by rw [IntKind.wrap_i64]; omega
theorem or_byte {x y : Int} (h0 : 0 ≤ x) (h1 : x < 65536) (h2 : 0 ≤ y) (h3 : y < 256) : Go.bits .or .i64 (x * 256) y = x * 256 + y :=
  bits_join .i64 31 (by decide) wr31 8 (x * 256) y (by omega) (show x * 256 % 256 = 0 by omega) (show x * 256 < 2147483648 by omega) h2 (show y < 256 from h3) (show y < 2147483648 by omega)
theorem or_six {x y : Int} (h0 : 0 ≤ x) (h1 : x < 16777216) (h2 : 0 ≤ y) (h3 : y < 64) : Go.bits .or .i64 (x * 64) y = x * 64 + y :=
  bits_join .i64 31 (by decide) wr31 6 (x * 64) y (by omega) (show x * 64 % 64 = 0 by omega) (show x * 64 < 2147483648 by omega) h2 (show y < 64 from h3) (show y < 2147483648 by omega)
theorem and_six {x : Int} (h0 : 0 ≤ x) (h1 : x < 16777216) : Go.bits .and .i64 x 63 = x % 64 :=
  bits_mask .i64 31 (by decide) wr31 6 (by decide) x h0 (show x < 2147483648 by omega)

theorem six_at {n j : Int} {e : Nat} (h0 : 0 ≤ n) (h1 : n < 16777216) (he : wrap64 (18 - wrap64 (6 * j)) = (e : Int)) (hs : e ≤ 64) : (Go.bits .and .i64 (shr .i64 n (wrap64 (18 - (wrap64 (6 * j))))) 63) % 256 = n / 2 ^ e % 64 := by
  rw [he]
  unfold shr
  have hm : min ((e : Int).toNat) IntKind.i64.bits = e := by
    have : IntKind.i64.bits = 64 := rfl
    rw [this]; omega
  rw [hm]
  have hp : (0 : Int) < 2 ^ e := Int.pow_pos (by decide)
  have hd0 : 0 ≤ n / 2 ^ e := Int.ediv_nonneg h0 (Int.le_of_lt hp)
  have hd1 : n / 2 ^ e ≤ n := Int.ediv_le_self _ h0
  rw [and_six hd0 (by omega)]
  omega
theorem put_l2 {k : Nat} {x0 : ByteArray} {acc : List Int} {i n r : Int} (h0 : 0 ≤ n) (h1 : n < 16777216) (r1 : 1 ≤ r) (r3 : r ≤ 3) (hl : acc.length + 4 ≤ 1000000) :
    base_Put.l2 (k + 5) x0 acc i n r 0 = base_Put.l0 k x0 (acc ++ quad n r) (wrap64 (i + 3)) := by
  have q0 := six_at h0 h1 (j := 0) (e := 18) (by unfold wrap64; omega) (by decide)
  have q1 := six_at h0 h1 (j := 1) (e := 12) (by unfold wrap64; omega) (by decide)
  have q2 := six_at h0 h1 (j := 2) (e := 6) (by unfold wrap64; omega) (by decide)
  have q3 := six_at h0 h1 (j := 3) (e := 0) (by unfold wrap64; omega) (by decide)
  have b1 : wrap64 ((0 : Int) + 1) = 1 := by unfold wrap64; omega
  have b2 : wrap64 ((1 : Int) + 1) = 2 := by unfold wrap64; omega
  have b3 : wrap64 ((2 : Int) + 1) = 3 := by unfold wrap64; omega
  have b4 : wrap64 ((3 : Int) + 1) = 4 := by unfold wrap64; omega
  have m (x : Int) : 0 ≤ x % 64 ∧ x % 64 < 64 := by omega
  rw [base_Put.l2, if_pos (by decide), if_pos (by omega), if_pos (by unfold wrap64; omega), q0, sign_f (m _).1 (m _).2, Option.bind_some, if_pos (by omega), b1]
  rw [base_Put.l2, if_pos (by decide), if_pos (by omega), if_pos (by unfold wrap64; omega), q1, sign_f (m _).1 (m _).2, Option.bind_some, if_pos (by simp; omega), b2]
  have e18 : (2 : Int) ^ 18 = 262144 := by decide
  have e12 : (2 : Int) ^ 12 = 4096 := by decide
  have e6 : (2 : Int) ^ 6 = 64 := by decide
  have e0 : n / (2 : Int) ^ 0 = n := by simp
  unfold quad
  by_cases c2 : 2 ≤ r
  · rw [base_Put.l2, if_pos (by decide), if_pos (by omega), if_pos (by unfold wrap64; omega), q2, sign_f (m _).1 (m _).2, Option.bind_some, if_pos (by simp; omega), b3, if_pos c2]
    by_cases c3 : 3 ≤ r
    · rw [base_Put.l2, if_pos (by decide), if_pos (by omega), if_pos (by unfold wrap64; omega), q3, sign_f (m _).1 (m _).2, Option.bind_some, if_pos (by simp; omega), b4, if_pos c3]
      rw [base_Put.l2, if_neg (by decide), e18, e12, e6, e0]
      simp
    · rw [base_Put.l2, if_pos (by decide), if_neg (by omega), if_pos (by simp; omega), b4, if_neg c3]
      rw [base_Put.l2, if_neg (by decide), e18, e12, e6]
      simp
  · rw [base_Put.l2, if_pos (by decide), if_neg (by omega), if_pos (by simp; omega), b3, if_neg c2, if_neg (by omega)]
    rw [base_Put.l2, if_pos (by decide), if_neg (by omega), if_pos (by simp; omega), b4]
    rw [base_Put.l2, if_neg (by decide), e18, e12]
    simp
theorem mn3 {a : Int} (h : 3 ≤ a) : mn a 3 = 3 := by unfold mn; split <;> omega
theorem mn_lt {a : Int} (h : a ≤ 3) : mn a 3 = a := by unfold mn; split <;> omega
theorem l1_in {k : Nat} {x0 : ByteArray} {acc : List Int} {i : Nat} {n r j : Int} (hj : j < 3) (hj0 : 0 ≤ j) (hr : j < r) (hlt : (i : Int) + j < (x0.size : Int)) (hsz : x0.size ≤ 1000) (hn0 : 0 ≤ n) (hn1 : n < 65536) :
    base_Put.l1 (k + 1) x0 acc i n r j = base_Put.l1 k x0 acc i (n * 256 + bt x0 ((i : Int) + j)) r (j + 1) := by
  have hb := bt_range x0 ((i : Int) + j)
  rw [base_Put.l1, if_pos hj, if_pos hr, w64 (n := (i : Int) + j) (by omega) (by omega), if_pos (by omega), if_pos hlt, w64 (n := n * 256) (by omega) (by omega), w64 (n := bt x0 ((i : Int) + j)) (by omega) (by omega), w64 (n := j + 1) (by omega) (by omega), or_byte hn0 hn1 hb.1 (by omega)]
theorem l1_out {k : Nat} {x0 : ByteArray} {acc : List Int} {i : Nat} {n r j : Int} (hj : j < 3) (hj0 : 0 ≤ j) (hr : ¬ j < r) (hn0 : 0 ≤ n) (hn1 : n < 65536) :
    base_Put.l1 (k + 1) x0 acc i n r j = base_Put.l1 k x0 acc i (n * 256) r (j + 1) := by
  rw [base_Put.l1, if_pos hj, if_neg hr, w64 (n := n * 256) (by omega) (by omega), w64 (n := j + 1) (by omega) (by omega)]
theorem l1_end {k : Nat} {x0 : ByteArray} {acc : List Int} {i : Int} {n r : Int} : base_Put.l1 (k + 1) x0 acc i n r 3 = base_Put.l2 k x0 acc i n r 0 := by
  rw [base_Put.l1, if_neg (by decide)]

theorem put_l0 {x0 : ByteArray} (hsz : x0.size ≤ 1000) : ∀ (m i : Nat) (acc : List Int) (k : Nat), x0.size - i ≤ m → i ≤ x0.size + 3 → acc.length + 4 * m + 8 ≤ 100000 → 10 * m + 1 ≤ k →
    base_Put.l0 k x0 acc i = some (strOfNums (acc ++ enc (rest x0 i))) := by
  intro m
  induction m using Nat.strongRecOn with
  | _ m ih =>
  intro i acc k hm hi hl hk
  by_cases hlt : i < x0.size
  · obtain ⟨k, rfl⟩ : ∃ q, k = q + 10 := ⟨k - 10, by omega⟩
    have B : ∀ j : Int, 0 ≤ bt x0 j ∧ bt x0 j < 256 := fun j => ⟨(bt_range x0 j).1, by have := (bt_range x0 j).2; omega⟩
    have e0 : ((i : Int) + 0) = (i : Int) := by omega
    have e1 : ((i : Int) + 1) = ((i + 1 : Nat) : Int) := by omega
    have e2 : ((i : Int) + 2) = ((i + 2 : Nat) : Int) := by omega
    have z1 : ((0 : Int) + 1) = 1 := by decide
    have z2 : ((1 : Int) + 1) = 2 := by decide
    have z3 : ((2 : Int) + 1) = 3 := by decide
    have hB0 := B (i : Int)
    have hB1 := B ((i + 1 : Nat) : Int)
    have hB2 := B ((i + 2 : Nat) : Int)
    rw [base_Put.l0, if_pos (by omega), w64 (n := (x0.size : Int) - (i : Int)) (by omega) (by omega)]
    have hw3 : wrap64 ((i : Int) + 3) = ((i + 3 : Nat) : Int) := by rw [w64 (by omega) (by omega)]; omega
    have hql : ∀ n r, (quad n r).length = 4 := fun n r => rfl
    by_cases h3 : i + 3 ≤ x0.size
    · rw [mn3 (by omega)]
      rw [l1_in (by decide) (by decide) (by decide) (by omega) hsz (by decide) (by decide), e0, z1]
      rw [l1_in (by decide) (by decide) (by decide) (by omega) hsz (by omega) (by omega), e1, z2]
      rw [l1_in (by decide) (by decide) (by decide) (by omega) hsz (by omega) (by omega), e2, z3, l1_end]
      rw [put_l2 (by omega) (by omega) (by decide) (by decide) (by omega), hw3]
      rw [ih (m - 3) (by omega) (i + 3) _ k (by omega) (by omega) (by rw [List.length_append, hql]; omega) (by omega)]
      rw [rest_cons hlt, rest_cons (show i + 1 < x0.size by omega), show i + 1 + 1 = i + 2 from rfl, rest_cons (show i + 2 < x0.size by omega), show i + 2 + 1 = i + 3 from rfl, enc]
      rw [show ((0 : Int) * 256 + bt x0 ↑i) * 256 + bt x0 ↑(i + 1) = bt x0 ↑i * 256 + bt x0 ↑(i + 1) from by omega]
      rw [show (bt x0 ↑i * 256 + bt x0 ↑(i + 1)) * 256 + bt x0 ↑(i + 2) = bt x0 ↑i * 65536 + bt x0 ↑(i + 1) * 256 + bt x0 ↑(i + 2) from by omega]
      simp
    · by_cases h2 : i + 2 ≤ x0.size
      · rw [mn_lt (by omega)]
        have hr : (x0.size : Int) - (i : Int) = 2 := by omega
        rw [hr]
        rw [l1_in (by decide) (by decide) (by decide) (by omega) hsz (by decide) (by decide), e0, z1]
        rw [l1_in (by decide) (by decide) (by decide) (by omega) hsz (by omega) (by omega), e1, z2]
        rw [l1_out (by decide) (by decide) (by decide) (by omega) (by omega), z3, l1_end]
        rw [put_l2 (by omega) (by omega) (by decide) (by decide) (by omega), hw3]
        rw [ih (m - 2) (by omega) (i + 3) _ k (by omega) (by omega) (by rw [List.length_append, hql]; omega) (by omega)]
        rw [rest_cons hlt, rest_cons (show i + 1 < x0.size by omega), rest_end (show x0.size ≤ i + 1 + 1 by omega), rest_end (show x0.size ≤ i + 3 by omega), enc, enc]
        rw [show (((0 : Int) * 256 + bt x0 ↑i) * 256 + bt x0 ↑(i + 1)) * 256 = bt x0 ↑i * 65536 + bt x0 ↑(i + 1) * 256 from by omega]
        simp
      · rw [mn_lt (by omega)]
        have hr : (x0.size : Int) - (i : Int) = 1 := by omega
        rw [hr]
        rw [l1_in (by decide) (by decide) (by decide) (by omega) hsz (by decide) (by decide), e0, z1]
        rw [l1_out (by decide) (by decide) (by decide) (by omega) (by omega), z2]
        rw [l1_out (by decide) (by decide) (by decide) (by omega) (by omega), z3, l1_end]
        rw [put_l2 (by omega) (by omega) (by decide) (by decide) (by omega), hw3]
        rw [ih (m - 1) (by omega) (i + 3) _ k (by omega) (by omega) (by rw [List.length_append, hql]; omega) (by omega)]
        rw [rest_cons hlt, rest_end (show x0.size ≤ i + 1 by omega), rest_end (show x0.size ≤ i + 3 by omega), enc, enc]
        rw [show (((0 : Int) * 256 + bt x0 ↑i) * 256) * 256 = bt x0 ↑i * 65536 from by omega]
        simp
  · obtain ⟨k, rfl⟩ : ∃ q, k = q + 1 := ⟨k - 1, by omega⟩
    rw [base_Put.l0, if_neg (by omega), rest_end (by omega)]
    simp [enc]
/-- base.Put writes the signs of the bytes. -/
theorem put_f {x0 : ByteArray} (hsz : x0.size ≤ 1000) {k : Nat} (hk : 10001 ≤ k) : base_Put.f k x0 = some (strOfNums (enc (rest x0 0))) := by
  unfold base_Put.f
  have := put_l0 hsz x0.size 0 [] k (by omega) (by omega) (by simp; omega) (by omega)
  simpa using this
/-- What 'Short' leaves. -/
theorem short_f {s : ByteArray} {n : Nat} : ∃ t, rotuluslaw1_Short.f s n = some t ∧ t.size = min s.size n ∧ t.data.toList = s.data.toList.take n := by
  unfold rotuluslaw1_Short.f
  have hm : mn (s.size : Int) (n : Int) = ((min s.size n : Nat) : Int) := by unfold mn; split <;> omega
  rw [hm, if_pos (by omega), if_pos (by omega)]
  refine ⟨_, rfl, ?_, ?_⟩
  · rw [Int.toNat_natCast, ByteArray.size_extract]; omega
  · rw [Int.toNat_natCast]
    have : (s.extract 0 (min s.size n)).data.toList = (s.data.toList.take (min s.size n)) := by simp [ByteArray.data_extract]
    rw [this]
    have hs : s.size = s.data.toList.length := by rw [Array.length_toList]; rfl
    rw [hs]
    rcases Nat.le_total s.data.toList.length n with h | h
    · rw [Nat.min_eq_left h, List.take_length, List.take_of_length_le h]
    · rw [Nat.min_eq_right h]

end Go.Proofs.YtiebldaihnbkmaaGreatDoor.Pure

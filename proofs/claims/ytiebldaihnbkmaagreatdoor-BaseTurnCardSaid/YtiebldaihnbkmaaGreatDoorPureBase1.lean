/-
  What is proved here: the reference's encoder writes what base.Put writes. Conditions: the bytes are bytes, and not too many.
-/
import Derived.Test.YtiebldaihnbkmaaGreatDoorPureBaseLen
set_option linter.unusedVariables false
set_option linter.unusedSimpArgs false
namespace Go.Proofs.YtiebldaihnbkmaaGreatDoor.Pure
open Go.RowKit Go.Proofs.YtiebldaihnbkmaaGreatDoor.PBase Go.Proofs.YtiebldaihnbkmaaGreatDoorW.PrintWords Go.Proofs.YtiebldaihnbkmaaGreatDoorW.PrintLast Go.Proofs.YtiebldaihnbkmaaGreatDoorW.PrintMore

def bits8 (a : Int) : List Int := [a / 128 % 2, a / 64 % 2, a / 32 % 2, a / 16 % 2, a / 8 % 2, a / 4 % 2, a / 2 % 2, a % 2]
def bitL : List Int → List Int
  | [] => []
  | a :: r => bits8 a ++ bitL r
theorem bitL_length (l : List Int) : (bitL l).length = 8 * l.length := by
  induction l with
  | nil => rfl
  | cons a r ih => simp only [bitL, List.length_append, List.length_cons, ih]; simp [bits8]; omega

/-- The value of up to six bits, what is missing being 0. -/
def six (l : List Int) : Int := (((((l.getD 0 0) * 2 + l.getD 1 0) * 2 + l.getD 2 0) * 2 + l.getD 3 0) * 2 + l.getD 4 0) * 2 + l.getD 5 0
theorem put_bits {k : Nat} {x0 : ByteArray} {acc : List Int} {i : Nat} (hi : i < x0.size) (hs : x0.size ≤ 1000) (hl : acc.length ≤ 100000) :
    rotulusref22_Put.l1 (k + 9) x0 acc i 128 = rotulusref22_Put.l0 k x0 (acc ++ bits8 (bt x0 i)) ((i + 1 : Nat) : Int) := by
  obtain ⟨b0, b1⟩ := bt_range x0 (i : Int)
  have step : ∀ (k : Nat) (acc : List Int) (d d' : Int), 0 < d → d ≤ 128 → wrap64 (Int.tdiv d 2) = d' → acc.length ≤ 200000 →
      rotulusref22_Put.l1 (k + 1) x0 acc i d = rotulusref22_Put.l1 k x0 (acc ++ [bt x0 i / d % 2]) i d' := by
    intro k acc d d' h0 h1 hd ha
    have q0 : 0 ≤ bt x0 i / d := Int.ediv_nonneg b0 (by omega)
    have q1 : bt x0 i / d ≤ bt x0 i := Int.ediv_le_self _ b0
    rw [rotulusref22_Put.l1, if_pos (by omega), if_pos (by omega), if_pos (by omega), if_neg (by omega), if_pos (by omega), w64 (n := bt x0 i) (by omega) (by omega), Int.tdiv_eq_ediv_of_nonneg b0, w64 (n := bt x0 i / d) (by omega) (by omega), Int.tmod_eq_emod_of_nonneg q0, hd]
  have t (a b : Int) (h : a / 2 = b) (h0 : 0 ≤ a) (h1 : a ≤ 128) : wrap64 (Int.tdiv a 2) = b := by
    rw [Int.tdiv_eq_ediv_of_nonneg h0, w64 (by omega) (by omega), h]
  rw [step _ acc 128 64 (by decide) (by decide) (t _ _ (by decide) (by decide) (by decide)) (by omega)]
  rw [step _ _ 64 32 (by decide) (by decide) (t _ _ (by decide) (by decide) (by decide)) (by simp; omega)]
  rw [step _ _ 32 16 (by decide) (by decide) (t _ _ (by decide) (by decide) (by decide)) (by simp; omega)]
  rw [step _ _ 16 8 (by decide) (by decide) (t _ _ (by decide) (by decide) (by decide)) (by simp; omega)]
  rw [step _ _ 8 4 (by decide) (by decide) (t _ _ (by decide) (by decide) (by decide)) (by simp; omega)]
  rw [step _ _ 4 2 (by decide) (by decide) (t _ _ (by decide) (by decide) (by decide)) (by simp; omega)]
  rw [step _ _ 2 1 (by decide) (by decide) (t _ _ (by decide) (by decide) (by decide)) (by simp; omega)]
  rw [step _ _ 1 0 (by decide) (by decide) (t _ _ (by decide) (by decide) (by decide)) (by simp; omega)]
  rw [rotulusref22_Put.l1, if_neg (by decide), w64 (n := (i : Int) + 1) (by omega) (by omega)]
  have e1 : bt x0 i / 1 = bt x0 i := Int.ediv_one _
  rw [e1]
  simp [bits8]
theorem put_l0r {x0 : ByteArray} (hs : x0.size ≤ 1000) : ∀ (m i : Nat) (acc : List Int) (k : Nat), x0.size - i = m → i ≤ x0.size → acc.length + 8 * m ≤ 100000 →
    rotulusref22_Put.l0 (k + 10 * m + 1) x0 acc i = rotulusref22_Put.l2 k (acc ++ bitL (rest x0 i)) ⟨#[]⟩ 0 := by
  intro m
  induction m with
  | zero =>
    intro i acc k hm hi hl
    rw [rotulusref22_Put.l0, if_neg (by omega), rest_end (by omega)]
    simp [bitL]
  | succ m ih =>
    intro i acc k hm hi hl
    rw [show k + 10 * (m + 1) + 1 = (k + 10 * m + 1) + 9 + 1 from by omega]
    rw [rotulusref22_Put.l0, if_pos (by omega), put_bits (by omega) hs (by omega)]
    rw [ih (i + 1) _ k (by omega) (by omega) (by simp [bits8]; omega), rest_cons (show i < x0.size by omega)]
    simp [bitL]

def signsS : ByteArray := ⟨#[65, 66, 67, 68, 69, 70, 71, 72, 73, 74, 75, 76, 77, 78, 79, 80, 81, 82, 83, 84, 85, 86, 87, 88, 89, 90, 97, 98, 99, 100, 101, 102, 103, 104, 105, 106, 107, 108, 109, 110, 111, 112, 113, 114, 115, 116, 117, 118, 119, 120, 121, 122, 48, 49, 50, 51, 52, 53, 54, 55, 56, 57, 43, 47]⟩
theorem signs_f : rotulusref22_signs.f = some signsS := rfl
theorem signs_all : ∀ n : Fin 64, (signsS.data.toList.drop n.val).take 1 = [UInt8.ofNat (sgI n.val).toNat] := by decide +kernel
theorem signs_at {n : Nat} (h : n < 64) : signsS.extract n (n + 1) = strOfNums [sgI n] := by
  have := signs_all ⟨n, h⟩
  have e : (signsS.extract n (n + 1)).data.toList = (strOfNums [sgI n]).data.toList := by
    rw [strOfNums_data]
    simp only [ByteArray.data_extract, Array.toList_extract, List.extract_eq_take_drop, List.map_cons, List.map_nil]
    rw [show n + 1 - n = 1 from by omega]
    exact this
  have e2 := Array.toList_inj.1 e
  cases hx : signsS.extract n (n + 1) with
  | mk d => rw [hx] at e2; simp only at e2; rw [e2]
theorem str_append (l m : List Int) : strOfNums l ++ strOfNums m = strOfNums (l ++ m) := by
  have e : (strOfNums l ++ strOfNums m).data.toList = (strOfNums (l ++ m)).data.toList := by
    rw [strOfNums_data]
    simp [ByteArray.data_append, strOfNums_data]
  have e2 := Array.toList_inj.1 e
  cases hx : strOfNums l ++ strOfNums m with
  | mk d => rw [hx] at e2; simp only at e2; rw [e2]
def Bin (l : List Int) : Prop := ∀ x ∈ l, 0 ≤ x ∧ x ≤ 1
theorem rd_getD (l : List Int) (i : Nat) : rd l (i : Int) = l.getD i 0 := by unfold rd; rw [Int.toNat_natCast]
theorem bin_getD {l : List Int} (h : Bin l) (i : Nat) : 0 ≤ l.getD i 0 ∧ l.getD i 0 ≤ 1 := by
  rw [List.getD_eq_getElem?_getD]
  cases e : l[i]? with
  | none => simp
  | some x => exact h x (List.mem_of_getElem? e)
theorem six_range {l : List Int} (h : Bin l) : 0 ≤ six l ∧ six l < 64 := by
  have a := bin_getD h 0; have b := bin_getD h 1; have c := bin_getD h 2; have d := bin_getD h 3; have e := bin_getD h 4; have f := bin_getD h 5
  unfold six; omega
theorem getD_drop (l : List Int) (i j : Nat) : (l.drop i).getD j 0 = l.getD (i + j) 0 := by
  rw [List.getD_eq_getElem?_getD, List.getD_eq_getElem?_getD, List.getElem?_drop]
theorem bin_drop {l : List Int} (h : Bin l) (i : Nat) : Bin (l.drop i) := fun x hx => h x (List.mem_of_mem_drop hx)

theorem l3_step {k : Nat} {bs : List Int} {x6 : ByteArray} {i j : Nat} {n : Int} (hb : Bin bs) (hj : j < i + 6) (hn0 : 0 ≤ n) (hn1 : n < 64) (hi : i ≤ 100000) :
    rotulusref22_Put.l3 (k + 1) bs x6 i n j = rotulusref22_Put.l3 k bs x6 i (n * 2 + bs.getD j 0) ((j + 1 : Nat) : Int) := by
  have g := bin_getD hb j
  rw [rotulusref22_Put.l3, w64 (n := (i : Int) + 6) (by omega) (by omega), if_pos (by omega)]
  by_cases hl : j < bs.length
  · rw [if_pos (by omega), if_pos (by omega), rd_getD, w64 (n := n * 2) (by omega) (by omega), w64 (n := n * 2 + bs.getD j 0) (by omega) (by omega), w64 (n := (j : Int) + 1) (by omega) (by omega)]
    rfl
  · rw [if_neg (by omega), w64 (n := n * 2) (by omega) (by omega), w64 (n := (j : Int) + 1) (by omega) (by omega)]
    have : bs.getD j 0 = 0 := by rw [List.getD_eq_getElem?_getD, List.getElem?_eq_none (by omega)]; rfl
    rw [this, Int.add_zero]; rfl
/-- The signs of bits, six by six. -/
def sixes : Nat → List Int → List Int
  | 0, _ => []
  | m + 1, bs => if bs = [] then [] else sgI (six bs) :: sixes m (bs.drop 6)
theorem sixes_le : ∀ (m : Nat) (l : List Int), (sixes m l).length ≤ m := by
  intro m
  induction m with
  | zero => intro l; simp [sixes]
  | succ m ih =>
    intro l
    rw [sixes]
    split
    · simp
    · simp; exact ih _
theorem l3_six {k : Nat} {bs : List Int} (hb : Bin bs) {i : Nat} {x6 : ByteArray} (hi : i ≤ 90000) : rotulusref22_Put.l3 (k + 6) bs x6 i 0 i = rotulusref22_Put.l3 k bs x6 i (six (bs.drop i)) ((i + 6 : Nat) : Int) := by
  have g0 := bin_getD hb i; have g1 := bin_getD hb (i + 1); have g2 := bin_getD hb (i + 2); have g3 := bin_getD hb (i + 3); have g4 := bin_getD hb (i + 4); have g5 := bin_getD hb (i + 5)
  have e6 : six (bs.drop i) = (((((bs.getD i 0) * 2 + bs.getD (i + 1) 0) * 2 + bs.getD (i + 2) 0) * 2 + bs.getD (i + 3) 0) * 2 + bs.getD (i + 4) 0) * 2 + bs.getD (i + 5) 0 := by
    unfold six
    rw [getD_drop, getD_drop, getD_drop, getD_drop, getD_drop, getD_drop, Nat.add_zero]
  rw [e6]
  rw [l3_step hb (j := i) (by omega) (by omega) (by omega) (by omega)]
  obtain ⟨n1, hn1⟩ : ∃ z, z = 0 * 2 + bs.getD (i) 0 := ⟨_, rfl⟩
  rw [← hn1]
  rw [l3_step hb (j := i + 1) (by omega) (by omega) (by omega) (by omega)]
  obtain ⟨n2, hn2⟩ : ∃ z, z = n1 * 2 + bs.getD (i + 1) 0 := ⟨_, rfl⟩
  rw [← hn2]
  rw [show i + 1 + 1 = i + 2 from rfl]
  rw [l3_step hb (j := i + 2) (by omega) (by omega) (by omega) (by omega)]
  obtain ⟨n3, hn3⟩ : ∃ z, z = n2 * 2 + bs.getD (i + 2) 0 := ⟨_, rfl⟩
  rw [← hn3]
  rw [show i + 2 + 1 = i + 3 from rfl]
  rw [l3_step hb (j := i + 3) (by omega) (by omega) (by omega) (by omega)]
  obtain ⟨n4, hn4⟩ : ∃ z, z = n3 * 2 + bs.getD (i + 3) 0 := ⟨_, rfl⟩
  rw [← hn4]
  rw [show i + 3 + 1 = i + 4 from rfl]
  rw [l3_step hb (j := i + 4) (by omega) (by omega) (by omega) (by omega)]
  obtain ⟨n5, hn5⟩ : ∃ z, z = n4 * 2 + bs.getD (i + 4) 0 := ⟨_, rfl⟩
  rw [← hn5]
  rw [show i + 4 + 1 = i + 5 from rfl]
  rw [l3_step hb (j := i + 5) (by omega) (by omega) (by omega) (by omega)]
  obtain ⟨n6, hn6⟩ : ∃ z, z = n5 * 2 + bs.getD (i + 5) 0 := ⟨_, rfl⟩
  rw [← hn6]
  rw [show i + 5 + 1 = i + 6 from rfl]
  congr 1
  omega
theorem signs_bts : ∀ n : Fin 64, bt signsS n.val = sgI n.val := by decide +kernel
/-- The reference's signs, as what is known of them. -/
theorem signs_ex : ∃ S, rotulusref22_signs.f = some S ∧ S.size = 64 ∧ (∀ n, n < 64 → S.extract n (n + 1) = strOfNums [sgI n]) ∧ (∀ n, n < 64 → bt S (n : Nat) = sgI (n : Nat)) :=
  ⟨signsS, signs_f, rfl, fun n h => signs_at h, fun n h => signs_bts ⟨n, h⟩⟩
theorem one_size (a : Int) : (strOfNums [a]).size = 1 := by rw [strOfNums_size]; rfl
theorem l3_out0 {k : Nat} {bs : List Int} {x6 : ByteArray} {i u : Nat} (hu : u < 64) (hi : i ≤ 90000) (ho : x6.size ≤ 100000) :
    rotulusref22_Put.l3 (k + 1) bs x6 i u ((i + 6 : Nat) : Int) = rotulusref22_Put.l2 k bs (x6 ++ strOfNums [sgI u]) ((i + 6 : Nat) : Int) := by
  obtain ⟨S, hf, hs, hx, -⟩ := signs_ex
  have e6 : ((i : Int) + 6) = ((i + 6 : Nat) : Int) := by omega
  have e1 : ((u : Int) + 1).toNat = u + 1 := by omega
  have w1 : wrap64 ((i : Int) + 6) = ((i + 6 : Nat) : Int) := by rw [w64 (n := (i : Int) + 6) (by omega) (by omega)]; omega
  have w2 : wrap64 ((u : Int) + 1) = (u : Int) + 1 := w64 (by omega) (by omega)
  have c1 : ¬ ((i + 6 : Nat) : Int) < ((i + 6 : Nat) : Int) := by omega
  have c2 : (0 : Int) ≤ (u : Int) := by omega
  have c3 : (u : Int) ≤ (u : Int) + 1 := by omega
  have c4 : (u : Int) + 1 ≤ (S.size : Int) := by rw [hs]; omega
  have o := one_size (sgI u)
  obtain ⟨Y, hY⟩ : ∃ Y, Y = strOfNums [sgI u] := ⟨_, rfl⟩
  have hx1 := hx u hu
  rw [← hY] at hx1 o ⊢
  have c5 : x6.size + Y.size ≤ 9223372036854775807 := by omega
  rw [rotulusref22_Put.l3, w1, if_neg c1, hf, Option.bind_some, w2, if_pos c2, if_pos c3, if_pos c4, e1, Int.toNat_natCast, hx1, if_pos c5]
theorem l3_out {k : Nat} {bs out : List Int} {i u : Nat} (hu : u < 64) (hi : i ≤ 90000) (ho : out.length ≤ 100000) :
    rotulusref22_Put.l3 (k + 1) bs (strOfNums out) i u ((i + 6 : Nat) : Int) = rotulusref22_Put.l2 k bs (strOfNums (out ++ [sgI u])) ((i + 6 : Nat) : Int) := by
  rw [l3_out0 hu hi (by rw [strOfNums_size]; exact ho), str_append]
theorem l2_step {bs : List Int} (hb : Bin bs) (hbl : bs.length ≤ 80000) {i : Nat} {out : List Int} {k : Nat} (hlt : i < bs.length) (ho : out.length ≤ 100000) :
    rotulusref22_Put.l2 (k + 1 + 6 + 1) bs (strOfNums out) i = rotulusref22_Put.l2 k bs (strOfNums (out ++ [sgI (six (bs.drop i))])) ((i + 6 : Nat) : Int) := by
  obtain ⟨r0, r1⟩ := six_range (bin_drop hb i)
  obtain ⟨u, hu⟩ := Int.eq_ofNat_of_zero_le r0
  rw [rotulusref22_Put.l2, if_pos (by omega), l3_six hb (by omega)]
  rw [hu] at r1 ⊢
  exact l3_out (by omega) (by omega) ho
theorem l2_end {bs : List Int} {i : Nat} {out : List Int} {k : Nat} (hlt : ¬ i < bs.length) :
    rotulusref22_Put.l2 (k + 1) bs (strOfNums out) i = rotulusref22_Put.l4 k (strOfNums out) := by
  rw [rotulusref22_Put.l2, if_neg (by omega)]
theorem sixes_nil : ∀ m, sixes m ([] : List Int) = []
  | 0 => rfl
  | _ + 1 => rfl

end Go.Proofs.YtiebldaihnbkmaaGreatDoor.Pure

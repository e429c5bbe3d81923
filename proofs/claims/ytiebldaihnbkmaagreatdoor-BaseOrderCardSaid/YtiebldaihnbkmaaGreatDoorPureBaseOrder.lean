/-
  What is proved here: the plain statement behind rotuluslaw14.BaseOrder. Conditions: none beyond its own.
-/
import Derived.Test.YtiebldaihnbkmaaGreatDoorPureBaseAll
import Derived.Test.YtiebldaihnbkmaaGreatDoorPBasex5
set_option linter.unusedVariables false
set_option linter.unusedSimpArgs false
namespace Go.Proofs.YtiebldaihnbkmaaGreatDoor.Pure
open Go.RowKit Go.Proofs.YtiebldaihnbkmaaGreatDoor.PBase Go.Proofs.YtiebldaihnbkmaaGreatDoorW.PrintWords Go.Proofs.YtiebldaihnbkmaaGreatDoorW.PrintLast Go.Proofs.YtiebldaihnbkmaaGreatDoorW.PrintMore

theorem enc_inj {x y : List Int} (hx : Byt x) (hy : Byt y) (h : enc x = enc y) : x = y := by
  obtain ⟨a1, a2⟩ := dec_enc _ x (Nat.le_refl _) hx
  obtain ⟨b1, b2⟩ := dec_enc _ y (Nat.le_refl _) hy
  rw [← h] at b1 b2
  have : x.length = y.length := by omega
  rw [← a2, this, b2]
theorem enc_take : ∀ (n : Nat) (l : List Int), l.length ≤ n → (enc l).take (l.length / 3 * 4) = enc (l.take (l.length / 3 * 3)) := by
  intro n
  induction n using Nat.strongRecOn with
  | _ n ih =>
  intro l hl
  match l with
  | [] => rfl
  | [a] => simp [enc]
  | [a, b] => simp [enc]
  | a :: b :: c :: r =>
    simp only [List.length_cons] at hl
    have g := ih (n - 3) (by omega) r (by omega)
    have e1 : (a :: b :: c :: r).length / 3 * 4 = r.length / 3 * 4 + 4 := by simp only [List.length_cons]; omega
    have e2 : (a :: b :: c :: r).length / 3 * 3 = r.length / 3 * 3 + 1 + 1 + 1 := by simp only [List.length_cons]; omega
    have e3 : (quad (a * 65536 + b * 256 + c) 3 ++ enc r).take (r.length / 3 * 4 + 4) = quad (a * 65536 + b * 256 + c) 3 ++ (enc r).take (r.length / 3 * 4) := rfl
    rw [e1, e2, enc, List.take_succ_cons, List.take_succ_cons, List.take_succ_cons, enc, e3, g]
theorem ext_toList (s : ByteArray) (n : Nat) : (s.extract 0 n).toList = s.toList.take n := by
  rw [ByteArray.toList_eq, ByteArray.toList_eq]
  simp [ByteArray.data_extract]
theorem rest_ext (s : ByteArray) (n : Nat) : rest (s.extract 0 n) 0 = (rest s 0).take n := by
  have e : (s.extract 0 n).data.toList = s.data.toList.take n := by simp [ByteArray.data_extract]
  unfold rest
  rw [List.drop_zero, List.drop_zero, e, List.map_take]
theorem str_take (l : List Int) (n : Nat) : (strOfNums l).toList.take n = (strOfNums (l.take n)).toList := by
  rw [ByteArray.toList_eq, ByteArray.toList_eq, strOfNums_data, strOfNums_data, List.map_take]
theorem rest_eq {s t : ByteArray} (h : s.toList = t.toList) : rest s 0 = rest t 0 := by
  rw [ByteArray.toList_eq, ByteArray.toList_eq] at h
  unfold rest
  rw [h]
theorem BaseOrder : rotuluslaw14_BaseOrder.Pure := by
  intro a0 a1 h0 h1
  obtain ⟨s, hs, hss, -⟩ := short_f (s := a0) (n := 40)
  obtain ⟨t, ht, hts, -⟩ := short_f (s := a1) (n := 40)
  obtain ⟨K, hK⟩ : ∃ K : Nat, 300000 ≤ K := ⟨_, Nat.le_refl _⟩
  refine ⟨K, ?_⟩
  have hs' : rotuluslaw1_Short.f a0 40 = some s := hs
  have ht' : rotuluslaw1_Short.f a1 40 = some t := ht
  have hel := (enc_len _ (rest s 0) (Nat.le_refl _)).1
  have hrl : (rest s 0).length = s.size := by rw [rest_length]; rfl
  have hps := @put_f s (by omega) K (by omega)
  have hpt := @put_f t (by omega) K (by omega)
  have hrs := @put_rf s (by omega) K (by omega)
  have hrt := @put_rf t (by omega) K (by omega)
  have hx : (s.extract 0 (s.size / 3 * 3)).size ≤ 1000 := by rw [ByteArray.size_extract]; omega
  have hpx := @put_f (s.extract 0 (s.size / 3 * 3)) hx K (by omega)
  rw [rest_ext] at hpx
  have het := enc_take _ (rest s 0) (Nat.le_refl _)
  rw [hrl] at het
  rw [← het] at hpx
  obtain ⟨P, hP⟩ : ∃ P, P = strOfNums (enc (rest s 0)) := ⟨_, rfl⟩
  obtain ⟨Q, hQ⟩ : ∃ Q, Q = strOfNums (enc (rest t 0)) := ⟨_, rfl⟩
  obtain ⟨R, hR⟩ : ∃ R, R = strOfNums ((enc (rest s 0)).take (s.size / 3 * 4)) := ⟨_, rfl⟩
  have hPR : (P.extract 0 (s.size / 3 * 4)).toList = R.toList := by rw [ext_toList, hP, str_take, hR]
  have hPs : P.size = (s.size + 2) / 3 * 4 := by rw [hP, strOfNums_size, hel, hrl]
  have hPQ : P.toList = Q.toList ↔ s.toList = t.toList := by
    have e1 : rest Q 0 = enc (rest t 0) := by rw [hQ]; exact rest_str fun x hx => by have := enc_byt _ x hx; omega
    rw [hP, toList_iff (enc_byt _), e1]
    constructor
    · intro h
      have h2 := enc_inj (byt_rest s 0) (byt_rest t 0) h
      rw [ByteArray.toList_eq, ByteArray.toList_eq]
      exact rest_inj h2
    · intro h
      rw [rest_eq h]
  rw [← hP] at hps hrs
  rw [← hQ] at hpt hrt
  rw [← hR] at hpx
  have hA : ((P.toList == Q.toList) == (s.toList == t.toList)) = true := by
    by_cases h : s.toList = t.toList
    · have h2 := hPQ.2 h
      rw [h, h2]; simp
    · have h2 : ¬ P.toList = Q.toList := fun z => h (hPQ.1 z)
      have b1 : (P.toList == Q.toList) = false := by simpa using h2
      have b2 : (s.toList == t.toList) = false := by simpa using h
      rw [b1, b2]; rfl
  have w1 : wrap64 (wrap64 ((s.size : Int) / 3) * 3) = ((s.size / 3 * 3 : Nat) : Int) := by rw [w64 (n := (s.size : Int) / 3) (by omega) (by omega), w64 (by omega) (by omega)]; omega
  have w2 : wrap64 (wrap64 (Int.tdiv ((s.size / 3 * 3 : Nat) : Int) 3) * 4) = ((s.size / 3 * 4 : Nat) : Int) := by
    rw [Int.tdiv_eq_ediv_of_nonneg (by omega), w64 (n := ((s.size / 3 * 3 : Nat) : Int) / 3) (by omega) (by omega), w64 (by omega) (by omega)]
    omega
  have c1 : (P.size : Int) ≥ ((s.size / 3 * 4 : Nat) : Int) := by rw [hPs]; omega
  have c2 : (0 : Int) ≤ ((s.size / 3 * 4 : Nat) : Int) := by omega
  have c3 : ((s.size / 3 * 4 : Nat) : Int) ≤ (P.size : Int) := by rw [hPs]; omega
  have c4 : (0 : Int) ≤ ((s.size / 3 * 3 : Nat) : Int) := by omega
  have c5 : ((s.size / 3 * 3 : Nat) : Int) ≤ (s.size : Int) := by omega
  unfold rotuluslaw14_BaseOrder.f rotuluslaw14_begun.f
  simp only [Option.bind_some, if_true]
  rw [hs', Option.bind_some, ht', Option.bind_some, hrs, Option.bind_some, hrt, Option.bind_some, hps, Option.bind_some, if_pos hA, if_pos rfl, hpt, Option.bind_some, if_pos rfl, w1, w2, if_pos c1, if_pos c2, if_pos c3, if_pos c4, if_pos c5, Int.toNat_natCast, Int.toNat_natCast, hpx, Option.bind_some, hPR]
  simp

end Go.Proofs.YtiebldaihnbkmaaGreatDoor.Pure

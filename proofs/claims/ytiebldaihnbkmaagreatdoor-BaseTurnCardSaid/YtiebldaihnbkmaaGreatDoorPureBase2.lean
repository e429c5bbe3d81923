/-
  What is proved here: the reference's encoder, its last two loops. Conditions: the bits are bits, and not too many.
-/
import Derived.Test.YtiebldaihnbkmaaGreatDoorPureBase1
set_option linter.unusedVariables false
set_option linter.unusedSimpArgs false
namespace Go.Proofs.YtiebldaihnbkmaaGreatDoor.Pure
open Go.RowKit Go.Proofs.YtiebldaihnbkmaaGreatDoor.PBase Go.Proofs.YtiebldaihnbkmaaGreatDoorW.PrintWords Go.Proofs.YtiebldaihnbkmaaGreatDoorW.PrintLast Go.Proofs.YtiebldaihnbkmaaGreatDoorW.PrintMore
theorem put_l2r {bs : List Int} (hb : Bin bs) (hbl : bs.length ≤ 80000) : ∀ (m i : Nat) (out : List Int) (k : Nat), bs.length - i ≤ m → out.length + m ≤ 100000 → 8 * m + 1 ≤ k →
    ∃ k', k ≤ k' + 8 * m + 1 ∧ rotulusref22_Put.l2 k bs (strOfNums out) (i : Int) = rotulusref22_Put.l4 k' (strOfNums (out ++ sixes m (bs.drop i))) := by
  intro m
  induction m with
  | zero =>
    intro i out k hm hl hk
    obtain ⟨q, hq⟩ : ∃ q, k = q + 1 := ⟨k - 1, by omega⟩
    refine ⟨q, by omega, ?_⟩
    have e := @l2_end bs i out q (by omega)
    rw [hq, e]
    simp only [sixes, List.append_nil]
  | succ m ih =>
    intro i out k hm hl hk
    by_cases hlt : i < bs.length
    · obtain ⟨q, hq⟩ : ∃ q, k = q + 1 + 6 + 1 := ⟨k - 8, by omega⟩
      have hne : bs.drop i ≠ [] := by intro h; have := congrArg List.length h; simp at this; omega
      have hlen : (out ++ [sgI (six (bs.drop i))]).length = out.length + 1 := by simp
      obtain ⟨k', q1, q2⟩ := ih (i + 6) (out ++ [sgI (six (bs.drop i))]) q (by omega) (by omega) (by omega)
      have st := @l2_step bs hb hbl i out q hlt (by omega)
      have es : sixes (m + 1) (bs.drop i) = sgI (six (bs.drop i)) :: sixes m (bs.drop (i + 6)) := by
        rw [sixes, if_neg hne, List.drop_drop]
      have ea : out ++ sixes (m + 1) (bs.drop i) = (out ++ [sgI (six (bs.drop i))]) ++ sixes m (bs.drop (i + 6)) := by
        rw [es]; simp
      refine ⟨k', by omega, ?_⟩
      rw [hq, ea]
      exact st.trans q2
    · have hd : bs.drop i = [] := List.drop_of_length_le (by omega)
      obtain ⟨q, hq⟩ : ∃ q, k = q + 1 := ⟨k - 1, by omega⟩
      refine ⟨q, by omega, ?_⟩
      have e := @l2_end bs i out q hlt
      rw [hq, e, hd, sixes_nil, List.append_nil]

/-- What is padded to fours. -/
def pad4 (l : List Int) : List Int := l ++ List.replicate ((4 - l.length % 4) % 4) 61
theorem put_l4 : ∀ (m : Nat) (out : List Int) (k : Nat), (4 - out.length % 4) % 4 = m → out.length ≤ 100000 → m < k → rotulusref22_Put.l4 k (strOfNums out) = some (strOfNums (pad4 out)) := by
  intro m
  induction m with
  | zero =>
    intro out k hm hl hk
    obtain ⟨k, rfl⟩ : ∃ q, k = q + 1 := ⟨k - 1, by omega⟩
    rw [rotulusref22_Put.l4, strOfNums_size, if_pos (by omega)]
    unfold pad4
    rw [hm]; simp
  | succ m ih =>
    intro out k hm hl hk
    obtain ⟨k, rfl⟩ : ∃ q, k = q + 1 := ⟨k - 1, by omega⟩
    rw [rotulusref22_Put.l4, strOfNums_size, if_neg (by omega), if_pos (by omega)]
    have e : (⟨#[61]⟩ : ByteArray) = strOfNums [61] := rfl
    have hl2 : (out ++ [(61 : Int)]).length = out.length + 1 := by simp
    rw [e, str_append, ih (out ++ [61]) k (by rw [hl2]; omega) (by rw [hl2]; omega) (by omega)]
    unfold pad4
    rw [hl2, hm, show (4 - (out.length + 1) % 4) % 4 = m from by omega, List.append_assoc]
    rfl

end Go.Proofs.YtiebldaihnbkmaaGreatDoor.Pure

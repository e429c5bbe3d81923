/-
  What is proved here: rotuluslaw14.BaseTurn answers true: its walk joined with what the decoders answer. Conditions: the whole numbers are of their kinds.
-/
import Derived.Test.YtiebldaihnbkmaaGreatDoorPureBaseAll
import Derived.Test.YtiebldaihnbkmaaGreatDoorTurnWalk
import Derived.OpenShut
set_option linter.unusedVariables false
set_option linter.unusedSimpArgs false
namespace Go.Proofs.YtiebldaihnbkmaaGreatDoor.Pure
open Go.RowKit Go.Proofs.YtiebldaihnbkmaaGreatDoor.PBase Go.Proofs.YtiebldaihnbkmaaGreatDoorW.PrintWords Go.Proofs.YtiebldaihnbkmaaGreatDoorW.PrintLast Go.Proofs.YtiebldaihnbkmaaGreatDoorW.PrintMore

theorem xor_val (b x : Int) : Go.bits .xor .u8 b x = ((BitVec.ofInt 8 b ^^^ BitVec.ofInt 8 x).toNat : Int) := by
  have h : Go.bits .xor .u8 b x = IntKind.u8.wrap ((BitVec.ofInt 8 b ^^^ BitVec.ofInt 8 x).toNat : Int) := rfl
  have hl := (BitVec.ofInt 8 b ^^^ BitVec.ofInt 8 x).isLt
  have hw : ∀ n : Int, IntKind.u8.wrap n = n % 256 := fun n => by simp [IntKind.wrap, IntKind.signed, IntKind.bits]
  rw [h, hw]
  omega
theorem xor_range (b x : Int) : 0 ≤ Go.bits .xor .u8 b x ∧ Go.bits .xor .u8 b x < 256 := by
  rw [xor_val]
  have hl := (BitVec.ofInt 8 b ^^^ BitVec.ofInt 8 x).isLt
  omega
theorem xor_zero {b x : Int} (hb : 0 ≤ b ∧ b < 256) (hx : 0 ≤ x ∧ x < 256) (h : Go.bits .xor .u8 b x = b) : x = 0 := by
  rw [xor_val] at h
  have hbv : (BitVec.ofInt 8 b).toNat = b.toNat := by rw [BitVec.toNat_ofInt]; omega
  have hxv : (BitVec.ofInt 8 x).toNat = x.toNat := by rw [BitVec.toNat_ofInt]; omega
  have e : (BitVec.ofInt 8 b ^^^ BitVec.ofInt 8 x) = BitVec.ofInt 8 b := by
    apply BitVec.eq_of_toNat_eq
    rw [hbv]; omega
  have e3 : BitVec.ofInt 8 x = 0#8 := by
    have := congrArg (BitVec.ofInt 8 b ^^^ ·) e
    simpa [← BitVec.xor_assoc] using this
  have e4 := congrArg BitVec.toNat e3
  rw [hxv] at e4
  have : (0#8 : BitVec 8).toNat = 0 := rfl
  omega
theorem empty_of {s : ByteArray} (h : s.size = 0) : s.toList.isEmpty = true := by
  rw [ByteArray.toList_eq]
  have : s.data.toList.length = 0 := by simpa using h
  rw [List.length_eq_zero_iff.1 this]; rfl
/-- A text with one byte turned. -/
theorem turned (P : ByteArray) {i : Nat} (hi : i < P.size) {y : Int} (hy : 0 ≤ y ∧ y < 256) :
    ∃ P2 : ByteArray, P2.size = P.size ∧ (((P2.data.toList.getD i 0).toNat : Nat) : Int) = y ∧ ∀ j, j ≠ i → P2.data.toList.getD j 0 = P.data.toList.getD j 0 := by
  refine ⟨⟨(P.data.toList.set i (UInt8.ofNat y.toNat)).toArray⟩, ?_, ?_, ?_⟩
  · show (P.data.toList.set i (UInt8.ofNat y.toNat)).toArray.size = P.size
    rw [List.size_toArray, List.length_set]; rfl
  · have hl : i < P.data.toList.length := by simpa using hi
    simp only [List.getD_eq_getElem?_getD, List.getElem?_set_self hl, Option.getD_some]
    have e : (UInt8.ofNat y.toNat).toNat = y.toNat % 256 := UInt8.toNat_ofNat'
    rw [e]; omega
  · intro j hj
    simp only [List.getD_eq_getElem?_getD, List.getElem?_set_ne (Ne.symm hj)]
theorem rest_at {P : ByteArray} {i : Nat} (hi : i < P.size) : (rest P 0).getD i 0 = (((P.data.toList.getD i 0).toNat : Nat) : Int) := by
  have hl : i < P.data.toList.length := by simpa using hi
  unfold rest
  rw [List.drop_zero, List.getD_eq_getElem?_getD, List.getD_eq_getElem?_getD, List.getElem?_map, List.getElem?_eq_getElem hl]
  rfl
theorem turn_walk (a0 : ByteArray) (at_ x : Int) (w : World) (ha1 : -9223372036854775808 ≤ at_ ∧ at_ ≤ 9223372036854775807) (hx : 0 ≤ x ∧ x ≤ 255) :
    Calls Tryz.prog 4 #[.string a0, .int .i64 at_, .int .u8 x] w fun e w' => e = .returned (.bool true) ∧ Below w.heap.size w w' := by
  obtain ⟨s, hs, hss, -⟩ := short_f (s := a0) (n := 40)
  obtain ⟨K, hK⟩ : ∃ K : Nat, 300000 ≤ K := ⟨_, Nat.le_refl _⟩
  have hs' : rotuluslaw1_Short.f a0 40 = some s := hs
  have hel := (enc_len _ (rest s 0) (Nat.le_refl _)).1
  have hrl : (rest s 0).length = s.size := by rw [rest_length]; rfl
  have hps := @put_f s (by omega) K (by omega)
  obtain ⟨P, hP⟩ : ∃ P, P = strOfNums (enc (rest s 0)) := ⟨_, rfl⟩
  have hPs : P.size = (s.size + 2) / 3 * 4 := by rw [hP, strOfNums_size, hel, hrl]
  have hPr : rest P 0 = enc (rest s 0) := by rw [hP]; exact rest_str fun x hx => by have := enc_byt _ x hx; omega
  rw [← hP] at hps
  by_cases h0 : P.size = 0
  · have hc : ((P.size : Int) == 0) = true := by rw [h0]; rfl
    exact turn_short K a0 s P at_ x w hs' hps hc true (empty_of (by omega))
  · have hc : ((P.size : Int) == 0) = false := by
      have : ¬ (P.size : Int) = 0 := by omega
      simpa using this
    by_cases ha : at_ < 0
    · exact turn_neg K a0 s P at_ x w hs' hps hc (decide_eq_true ha) _ rfl
    · have hm : Int.tmod at_ P.size = at_ % (P.size : Int) := Int.tmod_eq_emod_of_nonneg (by omega)
      have m0 : 0 ≤ at_ % (P.size : Int) := Int.emod_nonneg _ (by omega)
      have m1 : at_ % (P.size : Int) < (P.size : Int) := Int.emod_lt_of_pos _ (by omega)
      obtain ⟨i, hi⟩ := Int.eq_ofNat_of_zero_le m0
      have hi2 : i < P.size := by omega
      obtain ⟨b, hb⟩ : ∃ b, (((P.data.toList.getD i 0).toNat : Nat) : Int) = b := ⟨_, rfl⟩
      have hbr : 0 ≤ b ∧ b < 256 := by have := (P.data.toList.getD i 0).toNat_lt; omega
      obtain ⟨y, hy⟩ : ∃ y, Go.bits .xor .u8 b x = y := ⟨_, rfl⟩
      have hyr := xor_range b x
      rw [hy] at hyr
      obtain ⟨P2, hn, hy2, ho⟩ := turned P hi2 hyr
      obtain ⟨r1, g1, l1⟩ := @get_f P2 (by omega) K (by omega)
      obtain ⟨r2, g2, l2⟩ := @rget_f P2 (by omega) K (by omega)
      have hxs : (P.extract 0 i).size ≤ 1000 := by rw [ByteArray.size_extract]; omega
      obtain ⟨r3, g3, l3⟩ := @get_f (P.extract 0 i) hxs K (by omega)
      obtain ⟨r4, g4, l4⟩ := @rget_f (P.extract 0 i) hxs K (by omega)
      have e12 := law_eq l1 l2
      have e34 := law_eq l3 l4
      subst e12 e34
      obtain ⟨y1, o1⟩ := r1
      obtain ⟨y2, o2⟩ := r3
      refine turn_in K a0 s P P2 y1 y2 o1 o2 at_ x w hs' hps hc (decide_eq_false ha) i (hm.trans hi) hi2 b y hb hy hn hy2 ho g1 g2 g3 g4 ?_
      intro ho1 hx0
      have hx0' : ¬ x = 0 := by simpa using hx0
      rcases l1.1 with h | ⟨X, hX, hXe, hXr⟩
      · have := congrArg Prod.snd h
        simp only at this
        rw [ho1] at this
        cases this
      · have hy1 : y1 = strOfNums X := congrArg Prod.fst hXe
        have hne : ¬ y1.toList = s.toList := by
          intro h
          rw [hy1, toList_iff hX] at h
          rw [h, ← hPr] at hXr
          have p1 := @rest_at P i hi2
          have p2 := @rest_at P2 i (by omega)
          rw [← hXr, p1, hb, hy2] at p2
          exact hx0' (xor_zero hbr ⟨hx.1, by omega⟩ (hy.trans p2.symm))
        simpa using hne

end Go.Proofs.YtiebldaihnbkmaaGreatDoor.Pure

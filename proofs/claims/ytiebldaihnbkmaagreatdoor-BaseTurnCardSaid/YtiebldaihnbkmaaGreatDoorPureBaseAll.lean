/-
  What is proved here: the reference's decoder of any text; the plain statement behind rotuluslaw14.BaseAll. Conditions: none beyond its own.
-/
import Derived.Test.YtiebldaihnbkmaaGreatDoorPureBase5
set_option linter.unusedVariables false
set_option linter.unusedSimpArgs false
namespace Go.Proofs.YtiebldaihnbkmaaGreatDoor.Pure
open Go.RowKit Go.Proofs.YtiebldaihnbkmaaGreatDoor.PBase Go.Proofs.YtiebldaihnbkmaaGreatDoorW.PrintWords Go.Proofs.YtiebldaihnbkmaaGreatDoorW.PrintLast Go.Proofs.YtiebldaihnbkmaaGreatDoorW.PrintMore

def rbits : List Int → Option (List Int)
  | [] => some []
  | c :: r => if c = 61 then some [] else if vI c < 64 then (rbits r).map (bits6 (vI c) ++ ·) else none
def bytes8 : List Int → List Int
  | a :: b :: c :: d :: e :: f :: g :: h :: r => ((((((((0 * 2 + a) * 2 + b) * 2 + c) * 2 + d) * 2 + e) * 2 + f) * 2 + g) * 2 + h) :: bytes8 r
  | _ => []
theorem rget_l1 {t : ByteArray} {acc : List Int} {i : Nat} (hi : i < t.size) : ∀ (m x : Nat) (n : Int) (k : Nat), 64 - x = m → x ≤ 64 →
    rotulusref22_Get.l1 (k + m + 1) t acc i n x = (if (if (x : Int) ≤ vI (bt t i) ∧ vI (bt t i) < 64 then vI (bt t i) else n) < 0 then (some ((⟨#[]⟩ : ByteArray), false)) else (rotulusref22_Get.l2 k t acc i (if (x : Int) ≤ vI (bt t i) ∧ vI (bt t i) < 64 then vI (bt t i) else n) 32)) := by
  obtain ⟨S, hf, hS, -, hb⟩ := signs_ex
  obtain ⟨c, hc⟩ : ∃ c, c = bt t i := ⟨_, rfl⟩
  rw [← hc]
  intro m
  induction m with
  | zero =>
    intro x n k hm hx
    have h1 : ¬ (x : Int) < 64 := by omega
    have h2 : ¬ ((x : Int) ≤ vI c ∧ vI c < 64) := by omega
    rw [Nat.add_zero, rotulusref22_Get.l1, if_neg h1]
    simp only [if_neg h2]
  | succ m ih =>
    intro x n k hm hx
    have h1 : (x : Int) < 64 := by omega
    have h2 : (0 : Int) ≤ x := by omega
    have h3 : (x : Int) < (S.size : Int) := by rw [hS]; exact h1
    have h4 : (0 : Int) ≤ i := by omega
    have h5 : (i : Int) < (t.size : Int) := by omega
    have w : wrap64 ((x : Int) + 1) = ((x + 1 : Nat) : Int) := by rw [w64 (by omega) (by omega)]; omega
    rw [← Nat.add_assoc, rotulusref22_Get.l1, if_pos h1, hf, Option.bind_some, if_pos h2, if_pos h3, if_pos h4, if_pos h5, hb x (by omega), ← hc, w]
    by_cases hq : sgI (x : Int) = c
    · have hv := (sg_iff h2 h1).1 hq
      rw [if_pos hq, ih (x + 1) x k (by omega) (by omega)]
      have a1 : ¬ (((x + 1 : Nat) : Int) ≤ vI c ∧ vI c < 64) := by omega
      have a2 : (x : Int) ≤ vI c ∧ vI c < 64 := by omega
      rw [if_neg a1, if_pos a2, hv]
    · have hv : vI c ≠ x := fun z => hq ((sg_iff h2 h1).2 z)
      rw [if_neg hq, ih (x + 1) n k (by omega) (by omega)]
      have a : (((x + 1 : Nat) : Int) ≤ vI c ∧ vI c < 64) ↔ ((x : Int) ≤ vI c ∧ vI c < 64) := by omega
      simp only [a]
theorem rget_l2 {t : ByteArray} {acc : List Int} {i : Nat} {v : Int} (hv : 0 ≤ v ∧ v < 64) (hi : i ≤ 4000) (ha : acc.length ≤ 100000) {k : Nat} :
    rotulusref22_Get.l2 (k + 1 + 1 + 1 + 1 + 1 + 1 + 1) t acc i v 32 = rotulusref22_Get.l0 k t (acc ++ bits6 v) ((i + 1 : Nat) : Int) := by
  have step : ∀ (k : Nat) (acc : List Int) (d d' : Int), 0 < d → d ≤ 32 → d / 2 = d' → acc.length ≤ 200000 →
      rotulusref22_Get.l2 (k + 1) t acc i v d = rotulusref22_Get.l2 k t (acc ++ [v / d % 2]) i v d' := by
    intro k acc d d' h0 h1 hd hl
    have c1 : d > 0 := h0
    have c2 : ¬ d = 0 := by omega
    have c3 : acc.length < 17592186044416 := by omega
    have q0 : 0 ≤ v / d := Int.ediv_nonneg hv.1 (by omega)
    have q1 : v / d ≤ v := Int.ediv_le_self _ hv.1
    have w1 : Int.tmod (wrap64 (Int.tdiv v d)) 2 = v / d % 2 := by rw [Int.tdiv_eq_ediv_of_nonneg hv.1, w64 (n := v / d) (by omega) (by omega), Int.tmod_eq_emod_of_nonneg q0]
    have w2 : wrap64 (Int.tdiv d 2) = d' := by rw [Int.tdiv_eq_ediv_of_nonneg (by omega), w64 (by omega) (by omega), hd]
    rw [rotulusref22_Get.l2, if_pos c1, if_neg c2, if_pos c3, w1, w2]
  have la : ∀ (l : List Int) (x : Int) (n : Nat), l.length = n → (l ++ [x]).length = n + 1 := fun l x n h => by rw [List.length_append, h]; rfl
  have l1 := la acc (v / 32 % 2) _ rfl
  have l2 := la _ (v / 16 % 2) _ l1
  have l3 := la _ (v / 8 % 2) _ l2
  have l4 := la _ (v / 4 % 2) _ l3
  have l5 := la _ (v / 2 % 2) _ l4
  rw [step _ _ 32 16 (by decide) (by decide) (by decide) (by omega)]
  rw [step _ _ 16 8 (by decide) (by decide) (by decide) (by omega)]
  rw [step _ _ 8 4 (by decide) (by decide) (by decide) (by omega)]
  rw [step _ _ 4 2 (by decide) (by decide) (by decide) (by omega)]
  rw [step _ _ 2 1 (by decide) (by decide) (by decide) (by omega)]
  rw [step _ _ 1 0 (by decide) (by decide) (by decide) (by omega)]
  have w : wrap64 ((i : Int) + 1) = ((i + 1 : Nat) : Int) := by rw [w64 (by omega) (by omega)]; omega
  have c : ¬ (0 : Int) > 0 := by decide
  rw [rotulusref22_Get.l2, if_neg c, w, Int.ediv_one]
  simp only [List.append_assoc, List.cons_append, List.nil_append]
  rfl
theorem rbits_sz : ∀ (l b : List Int), rbits l = some b → b.length ≤ 6 * l.length := by
  intro l
  induction l with
  | nil => intro b h; cases h; exact Nat.le_refl _
  | cons c r ih =>
    intro b h
    rw [rbits] at h
    split at h
    · cases h; exact Nat.zero_le _
    · split at h
      · cases hr : rbits r with
        | none => rw [hr] at h; cases h
        | some z =>
          rw [hr] at h
          simp only [Option.map_some, Option.some.injEq] at h
          rw [← h, List.length_append, List.length_cons]
          have := ih z hr
          have e : (bits6 (vI c)).length = 6 := rfl
          omega
      · cases h
theorem rget_l0 {t : ByteArray} (hs : t.size ≤ 1000) : ∀ (m i : Nat) (acc : List Int) (K k : Nat), t.size - i = m → i ≤ t.size → acc.length + 6 * m ≤ 50000 → k + 80 * m + 2 ≤ K →
    (rbits (rest t i) = none → rotulusref22_Get.l0 K t acc i = some (⟨#[]⟩, false)) ∧ ∀ b, rbits (rest t i) = some b → ∃ k', k ≤ k' ∧ rotulusref22_Get.l0 K t acc i = rotulusref22_Get.l3 k' t (acc ++ b) [] 0 := by
  intro m
  induction m with
  | zero =>
    intro i acc K k hm hi hl hk
    obtain ⟨q, hq⟩ : ∃ q, K = q + 1 + 1 := ⟨K - 2, by omega⟩
    have h1 : ¬ (i : Int) < (t.size : Int) := by omega
    rw [rest_end (by omega)]
    refine ⟨fun h => (by cases h), fun b h => ?_⟩
    cases h
    refine ⟨q, by omega, ?_⟩
    rw [hq, rotulusref22_Get.l0, if_neg h1, rotulusref22_Get.j1, if_neg (by decide), List.append_nil]
  | succ m ih =>
    intro i acc K k hm hi hl hk
    obtain ⟨q, hq⟩ : ∃ q, K = q + 64 + 1 + 1 + 1 := ⟨K - 67, by omega⟩
    have h1 : (i : Int) < (t.size : Int) := by omega
    have h2 : (0 : Int) ≤ i := by omega
    rw [rest_cons (show i < t.size by omega), rbits]
    obtain ⟨c, hc⟩ : ∃ c, c = bt t i := ⟨_, rfl⟩
    rw [← hc]
    by_cases e : c = 61
    · rw [if_pos e]
      have e' : ¬ ((c != 61) = true) := by rw [e]; decide
      refine ⟨fun h => (by cases h), fun b h => ?_⟩
      cases h
      refine ⟨q + 64 + 1, by omega, ?_⟩
      rw [hq, rotulusref22_Get.l0, if_pos h1, if_pos h2, ← hc, rotulusref22_Get.j1, if_neg e', List.append_nil]
    · have e' : (c != 61) = true := by simpa using e
      have L := @rget_l1 t acc i (by omega) 64 0 (-1) q rfl (by decide)
      have hK : rotulusref22_Get.l0 K t acc i = rotulusref22_Get.l1 (q + 64 + 1) t acc i (-1) ((0 : Nat) : Int) := by
        rw [hq, rotulusref22_Get.l0, if_pos h1, if_pos h2, ← hc, rotulusref22_Get.j1, if_pos e']
        rfl
      rw [← hc] at L
      rw [if_neg e, hK, L]
      obtain ⟨q7, hq7⟩ : ∃ q7, q = q7 + 1 + 1 + 1 + 1 + 1 + 1 + 1 := ⟨q - 7, by omega⟩
      have hv := vI_range c
      by_cases hlt : vI c < 64
      · have a1 : ((0 : Nat) : Int) ≤ vI c ∧ vI c < 64 := ⟨hv.1, hlt⟩
        have a2 : ¬ vI c < 0 := by omega
        simp only [if_pos a1, if_neg a2, if_pos hlt]
        have L2 := @rget_l2 t acc i (vI c) ⟨hv.1, hlt⟩ (by omega) (by omega) q7
        rw [hq7, L2]
        have el : (acc ++ bits6 (vI c)).length = acc.length + 6 := by rw [List.length_append]; rfl
        obtain ⟨g1, g2⟩ := ih (i + 1) (acc ++ bits6 (vI c)) q7 k (by omega) (by omega) (by omega) (by omega)
        constructor
        · intro h
          refine g1 ?_
          cases hr : rbits (rest t (i + 1)) with
          | none => rfl
          | some z => rw [hr] at h; cases h
        · intro b h
          cases hr : rbits (rest t (i + 1)) with
          | none => rw [hr] at h; cases h
          | some z =>
            rw [hr] at h
            simp only [Option.map_some, Option.some.injEq] at h
            obtain ⟨k', p1, p2⟩ := g2 z hr
            refine ⟨k', p1, ?_⟩
            rw [p2, ← h, List.append_assoc]
      · have a1 : ¬ (((0 : Nat) : Int) ≤ vI c ∧ vI c < 64) := by omega
        have a2 : (-1 : Int) < 0 := by decide
        simp only [if_neg a1, if_pos a2, if_neg hlt]
        exact ⟨fun _ => trivial, fun b h => by cases h⟩

theorem rget_l4 {k : Nat} {t : ByteArray} {bs out : List Int} {i j : Nat} {n x : Int} (hx : bs.getD j 0 = x) (hj : j < bs.length) (hji : j < i + 8) (hi : i ≤ 100000) (hb : 0 ≤ x ∧ x ≤ 1) (h0 : 0 ≤ n ∧ n < 256) :
    rotulusref22_Get.l4 (k + 1) t bs out i n j = rotulusref22_Get.l4 k t bs out i (n * 2 + x) ((j + 1 : Nat) : Int) := by
  have w1 : wrap64 ((i : Int) + 8) = ((i + 8 : Nat) : Int) := by rw [w64 (by omega) (by omega)]; omega
  have w2 : wrap64 ((j : Int) + 1) = ((j + 1 : Nat) : Int) := by rw [w64 (by omega) (by omega)]; omega
  have w3 : wrap64 (n * 2) = n * 2 := w64 (by omega) (by omega)
  have w4 : wrap64 (n * 2 + x) = n * 2 + x := w64 (by omega) (by omega)
  have c1 : (j : Int) < ((i + 8 : Nat) : Int) := by omega
  have c2 : (0 : Int) ≤ j := by omega
  have c3 : (j : Int) < (bs.length : Int) := by omega
  rw [rotulusref22_Get.l4, w1, if_pos c1, if_pos c2, if_pos c3, rd_getD, hx, w2, w3, w4]
theorem getD_at {bs : List Int} {i : Nat} {l : List Int} (h : bs.drop i = l) (j : Nat) : bs.getD (i + j) 0 = l.getD j 0 := by rw [← h, getD_drop]
theorem rget_l3 {t : ByteArray} {bs : List Int} (hB : Bin bs) (hbl : bs.length ≤ 50000) : ∀ (m i : Nat) (out : List Int) (k : Nat), (bs.length - i) / 8 = m → i ≤ bs.length → out.length + m ≤ 1000 → Byt out → 120000 + 10 * m ≤ k →
    ∃ r, rotulusref22_Get.l3 k t bs out i = some r ∧ Answers t (out ++ bytes8 (bs.drop i)) r := by
  intro m
  induction m with
  | zero =>
    intro i out k hm hi hl hout hk
    obtain ⟨q, hq⟩ : ∃ q, k = q + 1 := ⟨k - 1, by omega⟩
    have w1 : wrap64 ((i : Int) + 8) = ((i + 8 : Nat) : Int) := by rw [w64 (by omega) (by omega)]; omega
    have c1 : ¬ ((i + 8 : Nat) : Int) ≤ (bs.length : Int) := by omega
    have hd : (bs.drop i).length < 8 := by rw [List.length_drop]; omega
    have hz : bytes8 (bs.drop i) = [] := by
      match h : bs.drop i with
      | [] => rfl
      | [_] => rfl
      | [_, _] => rfl
      | [_, _, _] => rfl
      | [_, _, _, _] => rfl
      | [_, _, _, _, _] => rfl
      | [_, _, _, _, _, _] => rfl
      | [_, _, _, _, _, _, _] => rfl
      | _ :: _ :: _ :: _ :: _ :: _ :: _ :: _ :: r => rw [h] at hd; simp only [List.length_cons] at hd; omega
    rw [hz, List.append_nil, hq, rotulusref22_Get.l3, w1, if_neg c1]
    have hr : rest (strOfNums out) 0 = out := rest_str fun x hx => by have := hout x hx; omega
    have hp := @put_rf (strOfNums out) (by rw [strOfNums_size]; omega) q (by omega)
    rw [hr] at hp
    rw [hp, Option.bind_some]
    by_cases h : enc out = rest t 0
    · exact ⟨_, if_pos ((toList_iff (enc_byt out)).2 h), Or.inl ⟨rfl, h⟩⟩
    · exact ⟨_, if_neg (fun z => h ((toList_iff (enc_byt out)).1 z)), Or.inr ⟨rfl, h⟩⟩
  | succ m ih =>
    intro i out k hm hi hl hout hk
    obtain ⟨q, hq⟩ : ∃ q, k = q + 1 + 1 + 1 + 1 + 1 + 1 + 1 + 1 + 1 + 1 := ⟨k - 10, by omega⟩
    have w1 : wrap64 ((i : Int) + 8) = ((i + 8 : Nat) : Int) := by rw [w64 (by omega) (by omega)]; omega
    have c1 : ((i + 8 : Nat) : Int) ≤ (bs.length : Int) := by omega
    match h : bs.drop i with
    | [] | [_] | [_, _] | [_, _, _] | [_, _, _, _] | [_, _, _, _, _] | [_, _, _, _, _, _] | [_, _, _, _, _, _, _] =>
      have := congrArg List.length h
      rw [List.length_drop] at this
      simp only [List.length_cons, List.length_nil] at this
      omega
    | a :: b :: c :: d :: e :: f :: g :: z :: r =>
      have hBd : Bin (a :: b :: c :: d :: e :: f :: g :: z :: r) := by rw [← h]; exact bin_drop hB i
      have ra := hBd a (by simp)
      have rb := hBd b (by simp)
      have rc := hBd c (by simp)
      have rd := hBd d (by simp)
      have re := hBd e (by simp)
      have rf := hBd f (by simp)
      have rg := hBd g (by simp)
      have rz := hBd z (by simp)
      have g0 := getD_at h 0
      have g1 := getD_at h 1
      have g2 := getD_at h 2
      have g3 := getD_at h 3
      have g4 := getD_at h 4
      have g5 := getD_at h 5
      have g6 := getD_at h 6
      have g7 := getD_at h 7
      have hdr : bs.drop (i + 8) = r := by rw [← List.drop_drop, h]; rfl
      have s0 := @rget_l4 (q + 1 + 1 + 1 + 1 + 1 + 1 + 1 + 1) t bs out i (i + 0) 0 a g0 (by omega) (by omega) (by omega) ra (by omega)
      have s1 := @rget_l4 (q + 1 + 1 + 1 + 1 + 1 + 1 + 1) t bs out i (i + 1) (0 * 2 + a) b g1 (by omega) (by omega) (by omega) rb (by omega)
      have s2 := @rget_l4 (q + 1 + 1 + 1 + 1 + 1 + 1) t bs out i (i + 2) ((0 * 2 + a) * 2 + b) c g2 (by omega) (by omega) (by omega) rc (by omega)
      have s3 := @rget_l4 (q + 1 + 1 + 1 + 1 + 1) t bs out i (i + 3) (((0 * 2 + a) * 2 + b) * 2 + c) d g3 (by omega) (by omega) (by omega) rd (by omega)
      have s4 := @rget_l4 (q + 1 + 1 + 1 + 1) t bs out i (i + 4) ((((0 * 2 + a) * 2 + b) * 2 + c) * 2 + d) e g4 (by omega) (by omega) (by omega) re (by omega)
      have s5 := @rget_l4 (q + 1 + 1 + 1) t bs out i (i + 5) (((((0 * 2 + a) * 2 + b) * 2 + c) * 2 + d) * 2 + e) f g5 (by omega) (by omega) (by omega) rf (by omega)
      have s6 := @rget_l4 (q + 1 + 1) t bs out i (i + 6) ((((((0 * 2 + a) * 2 + b) * 2 + c) * 2 + d) * 2 + e) * 2 + f) g g6 (by omega) (by omega) (by omega) rg (by omega)
      have s7 := @rget_l4 (q + 1) t bs out i (i + 7) (((((((0 * 2 + a) * 2 + b) * 2 + c) * 2 + d) * 2 + e) * 2 + f) * 2 + g) z g7 (by omega) (by omega) (by omega) rz (by omega)
      obtain ⟨V, hV⟩ : ∃ V, V = (((((((0 * 2 + a) * 2 + b) * 2 + c) * 2 + d) * 2 + e) * 2 + f) * 2 + g) * 2 + z := ⟨_, rfl⟩
      have hVr : 0 ≤ V ∧ V < 256 := by omega
      have s8 : rotulusref22_Get.l4 (q + 1) t bs out i V ((i + 7 + 1 : Nat) : Int) = rotulusref22_Get.l3 q t bs (out ++ [V]) ((i + 8 : Nat) : Int) := by
        have d1 : ¬ ((i + 7 + 1 : Nat) : Int) < ((i + 8 : Nat) : Int) := by omega
        have d2 : out.length < 140737488355328 := by omega
        have d3 : V % 256 = V := by omega
        rw [rotulusref22_Get.l4, w1, if_neg d1, if_pos d2, d3]
      rw [← hV] at s7
      have hl' : (out ++ [V]).length = out.length + 1 := by rw [List.length_append]; rfl
      have hout' : Byt (out ++ [V]) := by
        intro y hy
        rw [List.mem_append] at hy
        rcases hy with hy | hy
        · exact hout y hy
        · rw [List.mem_singleton] at hy; rw [hy]; exact hVr
      obtain ⟨r1, k1, k2⟩ := ih (i + 8) (out ++ [V]) q (by omega) (by omega) (by omega) hout' (by omega)
      refine ⟨r1, ?_, ?_⟩
      · rw [hq, rotulusref22_Get.l3, w1, if_pos c1]
        exact s0.trans (s1.trans (s2.trans (s3.trans (s4.trans (s5.trans (s6.trans (s7.trans (s8.trans k1))))))))
      · rw [bytes8, ← hV]
        rw [hdr, List.append_assoc] at k2
        exact k2
theorem rbits_bin : ∀ (l b : List Int), rbits l = some b → Bin b := by
  intro l
  induction l with
  | nil => intro b h; cases h; intro x hx; cases hx
  | cons c r ih =>
    intro b h
    rw [rbits] at h
    split at h
    · cases h; intro x hx; cases hx
    · split at h
      · cases hr : rbits r with
        | none => rw [hr] at h; cases h
        | some z =>
          rw [hr] at h
          simp only [Option.map_some, Option.some.injEq] at h
          rw [← h]
          intro x hx
          rw [List.mem_append] at hx
          rcases hx with hx | hx
          · unfold bits6 at hx
            simp only [List.mem_cons, List.mem_nil_iff, or_false] at hx
            rcases hx with rfl | rfl | rfl | rfl | rfl | rfl <;> omega
          · exact ih z hr x hx
      · cases h
theorem byt_bytes8 : ∀ (n : Nat) (l : List Int), l.length ≤ n → Bin l → Byt (bytes8 l) := by
  intro n
  induction n using Nat.strongRecOn with
  | _ n ih =>
  intro l hl hB
  match l with
  | [] | [_] | [_, _] | [_, _, _] | [_, _, _, _] | [_, _, _, _, _] | [_, _, _, _, _, _] | [_, _, _, _, _, _, _] => intro x hx; simp [bytes8] at hx
  | a :: b :: c :: d :: e :: f :: g :: z :: r =>
    simp only [List.length_cons] at hl
    have ra := hB a (by simp)
    have rb := hB b (by simp)
    have rc := hB c (by simp)
    have rd := hB d (by simp)
    have re := hB e (by simp)
    have rf := hB f (by simp)
    have rg := hB g (by simp)
    have rz := hB z (by simp)
    have h8 := ih (n - 8) (by omega) r (by omega) (fun x hx => hB x (by simp [hx]))
    intro x hx
    rw [bytes8, List.mem_cons] at hx
    rcases hx with rfl | hx
    · omega
    · exact h8 x hx

theorem rbits_sign {v : Int} (h : 0 ≤ v ∧ v < 64) (r : List Int) : rbits (sgI v :: r) = (rbits r).map (bits6 v ++ ·) := by
  have h1 := (sgI_range h.1 h.2).2.2
  have h2 := vI_sg h.1 h.2
  have h3 : vI (sgI v) < 64 := by omega
  rw [rbits, if_neg h1, if_pos h3, h2]
theorem rbits_fill (r : List Int) : rbits (61 :: r) = some [] := by rw [rbits, if_pos rfl]
theorem bytes8_bits {a : Int} (h : 0 ≤ a ∧ a < 256) (r : List Int) : bytes8 (bits8 a ++ r) = a :: bytes8 r := by
  unfold bits8
  simp only [List.cons_append, List.nil_append]
  rw [bytes8]
  congr 1
  omega
theorem bytes8_few {l : List Int} (h : l.length < 8) : bytes8 l = [] := by
  match l with
  | [] | [_] | [_, _] | [_, _, _] | [_, _, _, _] | [_, _, _, _, _] | [_, _, _, _, _, _] | [_, _, _, _, _, _, _] => rfl
  | _ :: _ :: _ :: _ :: _ :: _ :: _ :: _ :: r => simp only [List.length_cons] at h; omega
theorem quad3 (n : Int) (s : List Int) : quad n 3 ++ s = sgI (n / 262144 % 64) :: sgI (n / 4096 % 64) :: sgI (n / 64 % 64) :: sgI (n % 64) :: s := rfl
theorem quad2 (n : Int) : quad n 2 = [sgI (n / 262144 % 64), sgI (n / 4096 % 64), sgI (n / 64 % 64), 61] := rfl
theorem quad1 (n : Int) : quad n 1 = [sgI (n / 262144 % 64), sgI (n / 4096 % 64), 61, 61] := rfl
theorem rbits_enc : ∀ (n : Nat) (y : List Int), y.length ≤ n → Byt y → ∃ b, rbits (enc y) = some b ∧ bytes8 b = y := by
  intro n
  induction n using Nat.strongRecOn with
  | _ n ih =>
  intro y hl hb
  match y with
  | [] => exact ⟨[], rfl, rfl⟩
  | [a] =>
    have h1 := (byt_cons hb).1
    refine ⟨bits6 (a * 65536 / 262144 % 64) ++ (bits6 (a * 65536 / 4096 % 64) ++ []), ?_, ?_⟩
    · rw [enc, quad1, rbits_sign (mod64 _), rbits_sign (mod64 _), rbits_fill]; rfl
    · have e : bits6 (a * 65536 / 262144 % 64) ++ (bits6 (a * 65536 / 4096 % 64) ++ []) = bits8 a ++ [0, 0, 0, 0] := by
        unfold bits6 bits8
        simp only [List.cons_append, List.nil_append, List.cons.injEq, and_true]
        refine ⟨?_, ?_, ?_, ?_, ?_, ?_, ?_, ?_, ?_, ?_, ?_, ?_⟩ <;> omega
      rw [e, bytes8_bits h1, bytes8_few (by decide)]
  | [a, b] =>
    have h1 := (byt_cons hb).1
    have h2 := (byt_cons (byt_cons hb).2).1
    refine ⟨bits6 ((a * 65536 + b * 256) / 262144 % 64) ++ (bits6 ((a * 65536 + b * 256) / 4096 % 64) ++ (bits6 ((a * 65536 + b * 256) / 64 % 64) ++ [])), ?_, ?_⟩
    · rw [enc, quad2, rbits_sign (mod64 _), rbits_sign (mod64 _), rbits_sign (mod64 _), rbits_fill]; rfl
    · have e : bits6 ((a * 65536 + b * 256) / 262144 % 64) ++ (bits6 ((a * 65536 + b * 256) / 4096 % 64) ++ (bits6 ((a * 65536 + b * 256) / 64 % 64) ++ [])) = bits8 a ++ (bits8 b ++ [0, 0]) := by
        unfold bits6 bits8
        simp only [List.cons_append, List.nil_append, List.cons.injEq, and_true]
        refine ⟨?_, ?_, ?_, ?_, ?_, ?_, ?_, ?_, ?_, ?_, ?_, ?_, ?_, ?_, ?_, ?_, ?_, ?_⟩ <;> omega
      rw [e, bytes8_bits h1, bytes8_bits h2, bytes8_few (by decide)]
  | a :: b :: c :: r =>
    simp only [List.length_cons] at hl
    have h1 := (byt_cons hb).1
    have h2 := (byt_cons (byt_cons hb).2).1
    have h3 := byt_cons (byt_cons (byt_cons hb).2).2
    obtain ⟨z, g1, g2⟩ := ih (n - 3) (by omega) r (by omega) h3.2
    refine ⟨bits6 ((a * 65536 + b * 256 + c) / 262144 % 64) ++ (bits6 ((a * 65536 + b * 256 + c) / 4096 % 64) ++ (bits6 ((a * 65536 + b * 256 + c) / 64 % 64) ++ (bits6 ((a * 65536 + b * 256 + c) % 64) ++ z))), ?_, ?_⟩
    · rw [enc, quad3, rbits_sign (mod64 _), rbits_sign (mod64 _), rbits_sign (mod64 _), rbits_sign (mod64 _), g1]; rfl
    · have e := congrArg (· ++ z) (quad_bits h1 h2 h3.1)
      simp only [List.append_assoc] at e
      rw [← e, bytes8_bits h1, bytes8_bits h2, bytes8_bits h3.1, g2]

theorem rget_f {t : ByteArray} (hs : t.size ≤ 1000) {k : Nat} (hk : 300000 ≤ k) : ∃ r, rotulusref22_Get.f k t = some r ∧ Law t r := by
  unfold rotulusref22_Get.f
  have hrl : (rest t 0).length = t.size := by rw [rest_length]; rfl
  obtain ⟨g1, g2⟩ := @rget_l0 t hs t.size 0 [] k 130000 rfl (Nat.zero_le _) (by rw [List.length_nil]; omega) (by omega)
  cases hr : rbits (rest t 0) with
  | none =>
    refine ⟨_, g1 hr, Or.inl rfl, fun y hy he => ?_⟩
    obtain ⟨b, e1, -⟩ := rbits_enc _ y (Nat.le_refl _) hy
    rw [he, hr] at e1
    cases e1
  | some b =>
    obtain ⟨k', p1, p2⟩ := g2 b hr
    have hbl := rbits_sz _ b hr
    have hB := rbits_bin _ b hr
    rw [hrl] at hbl
    rw [List.nil_append] at p2
    obtain ⟨r, q1, q2⟩ := @rget_l3 t b hB (by omega) (b.length / 8) 0 [] k' rfl (Nat.zero_le _) (by rw [List.length_nil]; omega) (fun x hx => by cases hx) (by omega)
    rw [List.nil_append, List.drop_zero] at q2
    have p2' : rotulusref22_Get.l0 k t [] 0 = rotulusref22_Get.l3 k' t b [] 0 := p2
    have q1' : rotulusref22_Get.l3 k' t b [] 0 = some r := q1
    refine ⟨r, p2'.trans q1', law_of (byt_bytes8 _ b (Nat.le_refl _) hB) q2 fun y hy he => ?_⟩
    obtain ⟨b2, e1, e2⟩ := rbits_enc _ y (Nat.le_refl _) hy
    rw [he, hr] at e1
    cases e1
    exact e2

theorem BaseAll : rotuluslaw14_BaseAll.Pure := by
  intro a0 a1 h0 h1
  obtain ⟨s, hs, hss, -⟩ := short_f (s := a0) (n := 60)
  obtain ⟨t, ht, hts, -⟩ := short_f (s := a1) (n := 40)
  obtain ⟨K, hK⟩ : ∃ K : Nat, 300000 ≤ K := ⟨_, Nat.le_refl _⟩
  refine ⟨K, ?_⟩
  have hs' : rotuluslaw1_Short.f a0 60 = some s := hs
  have ht' : rotuluslaw1_Short.f a1 40 = some t := ht
  have hel := (enc_len _ (rest s 0) (Nat.le_refl _)).1
  have hrl : (rest s 0).length = s.size := by rw [rest_length]; rfl
  have hpb := @put_f s (by omega) K (by omega)
  have hpr := @put_rf s (by omega) K (by omega)
  obtain ⟨P, hP⟩ : ∃ P, P = strOfNums (enc (rest s 0)) := ⟨_, rfl⟩
  have hPs : P.size ≤ 1000 := by rw [hP, strOfNums_size, hel, hrl]; omega
  have hPr : rest P 0 = enc (rest s 0) := by rw [hP]; exact rest_str fun x hx => by have := enc_byt _ x hx; omega
  rw [← hP] at hpb hpr
  obtain ⟨r1, a1', b1⟩ := @get_f P hPs K (by omega)
  obtain ⟨r2, a2, b2⟩ := @get_f t (by omega) K (by omega)
  obtain ⟨r3, a3, b3⟩ := @rget_f t (by omega) K (by omega)
  have e1 : r1 = (strOfNums (rest s 0), true) := b1.2 _ (byt_rest s 0) hPr.symm
  have e2 : r2 = r3 := law_eq b2 b3
  have e3 : (strOfNums (rest s 0)).toList = s.toList := (toList_iff (byt_rest s 0)).2 rfl
  unfold rotuluslaw14_BaseAll.f rotuluslaw14_begun.f
  simp only [Option.bind_some, if_true]
  rw [hs', Option.bind_some, ht', Option.bind_some, hpb, Option.bind_some, a1', Option.bind_some, a2, Option.bind_some, a3, Option.bind_some, hpr, Option.bind_some, if_pos rfl, e1, e2]
  simp only [if_true]
  rw [if_pos e3]
  simp

end Go.Proofs.YtiebldaihnbkmaaGreatDoor.Pure

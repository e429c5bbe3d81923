/-
  What is proved here: the plain interpreter of Go code is sound: what it comes to in a call, the machine comes to, in whatever order it draws (part N). Condition: the program follows mixed orders.
-/
import Derived.Test.YtiebldaihnbkmaaGreatDoorVM
set_option linter.unusedVariables false
set_option linter.unusedSimpArgs false
set_option linter.unusedVariables false
set_option linter.unusedSimpArgs false
namespace Go.Vai
noncomputable section
section
variable {P : Program} {call : CallFn} {nt : Nat} {ops : Array Oper}
def Lst (listed : Array Bool) (i : Nat) : Prop := listed.getD i false = true
structure DInv (ops : Array Oper) (es : List Ent) (fin st : St) (listed : Array Bool) (j : Nat) (cur : St) : Prop where
  sz : listed.size = ops.size
  dc : Down ops (Lst listed)
  mu : ∀ i, mutAt es i = true → (Lst listed i ↔ cnt es i < j)
  hp : (heaps es fin)[j]? = some cur.h
  t1 : ∀ k o e, ops[k]? = some o → es[k]? = some e → Lst listed k → ∀ t, o.dst = some t → gd cur.tm t = e.v
  t2 : ∀ t, (∀ k o, ops[k]? = some o → Lst listed k → o.dst ≠ some t) → gd cur.tm t = gd st.tm t
theorem lst_set {listed : Array Bool} {i k : Nat} (hi : i < listed.size) : Lst (listed.setIfInBounds i true) k ↔ (k = i ∨ Lst listed k) := by
  unfold Lst
  by_cases e : k = i
  · subst e; simp [hi]
  · have : (listed.setIfInBounds i true).getD k false = listed.getD k false := getD_set_ne false (fun x => e x.symm)
    rw [this]; simp [e]
theorem static_spec (h : drStatic ops = true) {i : Nat} {o : Oper} (ho : ops[i]? = some o) :
    (∀ d, o.dst = some d → ∀ k p, k < i → ops[k]? = some p → p.dst ≠ some d) ∧ (∀ e ∈ o.after.toList, Region.binds .any e = true → e.on < i) ∧
    (∀ t ∈ o.looksAt ops, ∀ k p, ops[k]? = some p → p.dst = some t → k ≠ i → (k < i → ((masks ops).getD i 0).testBit k = true) ∧ (i < k → ((masks ops).getD k 0).testBit i = true)) := by
  have hi : i < ops.size := (Array.getElem?_eq_some_iff.1 ho).1
  have h1 := allTo_spec h i hi
  rw [ho] at h1
  simp only [Bool.and_eq_true] at h1
  obtain ⟨⟨ha, hb⟩, hc⟩ := h1
  refine ⟨?_, ?_, ?_⟩
  · intro d hd k p hk hp hpd
    rw [hd] at ha
    have := allTo_spec ha k hk
    rw [hp] at this
    simp only [Bool.not_eq_true'] at this
    rw [dstIs_eq.2 hpd] at this; cases this
  · intro e he hbn
    have := List.all_eq_true.1 hb e he
    rw [hbn] at this
    simpa using this
  · intro t ht k p hp hpd hki
    have h2 := List.all_eq_true.1 hc t ht
    have hk : k < ops.size := (Array.getElem?_eq_some_iff.1 hp).1
    have h3 := allTo_spec h2 k hk
    rw [hp] at h3
    simp only [dstIs_eq.2 hpd] at h3
    have e2 : Nat.beq k i = false := by
      cases hh : Nat.beq k i with
      | false => rfl
      | true => exact absurd (Nat.eq_of_beq_eq_true hh) hki
    constructor
    · intro hlt
      have e1 : Nat.blt k i = true := by simpa using hlt
      rw [e1] at h3; exact h3
    · intro hlt
      have e1 : Nat.blt k i = false := by
        cases hh : Nat.blt k i with
        | false => rfl
        | true => have : k < i := by simpa using hh
                  omega
      rw [e1, e2] at h3; exact h3
theorem below_spec (h : drBelow nt ops = true) {i : Nat} {o : Oper} (ho : ops[i]? = some o) {d : Nat} (hd : o.dst = some d) : d < nt := by
  have hm : o ∈ ops.toList := by
    have := Array.getElem?_eq_some_iff.1 ho
    obtain ⟨hi, rfl⟩ := this
    simp
  have := List.all_eq_true.1 h o hm
  rw [hd] at this
  simpa using this
theorem dyn_mut {es : List Ent} {fin : St} (h : drDyn P call ops es fin = true) {i k : Nat} (hn : i < ops.size) (hi : mutAt es i = true) (hk : mutAt es k = true) (hki : k < i) : ((masks ops).getD i 0).testBit k = true := by
  have hany : es.any (·.mut_) = true := by
    unfold mutAt at hi
    split at hi
    · rename_i e he
      exact List.any_eq_true.2 ⟨e, List.mem_of_getElem? he, hi⟩
    · cases hi
  unfold drDyn at h
  rw [hany] at h
  have h1 := allTo_spec h i hn
  unfold mutAt at hi
  split at hi
  · rename_i e he
    rw [he] at h1
    obtain ⟨o, ho⟩ : ∃ o, ops[i]? = some o := ⟨ops[i], Array.getElem?_eq_getElem hn⟩
    rw [ho] at h1
    simp only [hi] at h1
    have h2 := allTo_spec h1 k hki
    rw [hk] at h2
    simpa using h2
  · cases hi
theorem dyn_read {es : List Ent} {fin : St} (h : drDynR P call ops es fin = true) {i j : Nat} {e : Ent} {o : Oper} (he : es[i]? = some e) (ho : ops[i]? = some o) (hm : e.mut_ = false) (hw : e.want = true) (hlen : es.length = ops.size)
    (hj : j ≠ cnt es i) {hh : Heap} (hhj : (heaps es fin)[j]? = some hh)
    (f1 : ∀ k, mutAt es k = true → ((masks ops).getD i 0).testBit k = true → cnt es k < j) (f2 : ∀ k, mutAt es k = true → ((masks ops).getD k 0).testBit i = true → j ≤ cnt es k) :
    ∃ h', stepOp P call o e.st.tm hh = some (e.v, h') := by
  have hjl : j < (heaps es fin).length := by
    rcases Nat.lt_or_ge j (heaps es fin).length with x | x
    · exact x
    · rw [List.getElem?_eq_none x] at hhj; cases hhj
  have hn : i < ops.size := (Array.getElem?_eq_some_iff.1 ho).1
  unfold drDynR at h
  cases hany : es.any (·.mut_) with
  | false =>
    exfalso
    have hz : ∀ (es : List Ent), es.any (·.mut_) = false → ∀ i, cnt es i = 0 := by
      intro es
      induction es with
      | nil => intro _ i; cases i <;> rfl
      | cons a es ih =>
        intro ha i
        simp only [List.any_cons, Bool.or_eq_false_iff] at ha
        cases i with
        | zero => rfl
        | succ i => simp only [cnt, ha.1]; rw [ih ha.2]
    have h1 := (heaps_last es fin).1
    rw [hz es hany] at h1
    rw [hz es hany] at hj
    omega
  | true =>
    rw [hany] at h
    have h1 := allTo_spec h i hn
    rw [he, ho] at h1
    simp only [hm, hw] at h1
    have h2 := allTo_spec h1 j hjl
    simp only [Bool.or_eq_true] at h2
    rcases h2 with (h2 | h2) | h2
    · exact absurd (Nat.eq_of_beq_eq_true h2) hj
    · exfalso
      have : allTo (fun k => !mutAt es k || ((!((masks ops).getD i 0).testBit k || Nat.blt (cnt es k) j) && (!((masks ops).getD k 0).testBit i || Nat.ble j (cnt es k)))) ops.size = true := by
        have key : ∀ n, allTo (fun k => !mutAt es k || ((!((masks ops).getD i 0).testBit k || Nat.blt (cnt es k) j) && (!((masks ops).getD k 0).testBit i || Nat.ble j (cnt es k)))) n = true := by
          intro n
          induction n with
          | zero => rfl
          | succ n ih =>
            have hf : (!mutAt es n || ((!((masks ops).getD i 0).testBit n || Nat.blt (cnt es n) j) && (!((masks ops).getD n 0).testBit i || Nat.ble j (cnt es n)))) = true := by
              cases hmn : mutAt es n with
              | false => rfl
              | true =>
                simp only [Bool.not_true, Bool.false_or, Bool.and_eq_true]
                constructor
                · cases hb : ((masks ops).getD i 0).testBit n with
                  | false => rfl
                  | true => have := f1 n hmn hb; simp only [Bool.not_true, Bool.false_or]; simpa using this
                · cases hb : ((masks ops).getD n 0).testBit i with
                  | false => rfl
                  | true => have := f2 n hmn hb; simp only [Bool.not_true, Bool.false_or]; simpa using this
            simp only [allTo, hf]; exact ih
        exact key _
      rw [this] at h2; cases h2
    · rw [hhj] at h2
      simp only at h2
      split at h2
      · rename_i v h' hs
        exact ⟨h', by rw [hs, veq_eq h2]⟩
      · cases h2
theorem down_set {listed : Array Bool} {i : Nat} {o : Oper} (hls : i < listed.size) (D : Down ops (Lst listed)) (ho : ops[i]? = some o) (hpred : ∀ e ∈ o.after.toList, Region.binds .any e = true → Lst listed e.on) : Down ops (Lst (listed.setIfInBounds i true)) := by
  intro k p hp hk e he hb
  rcases (lst_set hls).1 hk with rfl | hk
  · rw [ho] at hp; cases hp
    exact (lst_set hls).2 (.inr (hpred e he hb))
  · exact (lst_set hls).2 (.inr (D k p hp hk e he hb))
theorem dinv_slot {es : List Ent} {fin st : St} {listed : Array Bool} {j : Nat} {cur : St} (hst : drStatic ops = true) (hbe : drBelow nt ops = true) (hnt : nt < 1000000) (hps : pass P call nt ops ops.toList st = some (es, fin))
    (I : DInv ops es fin st listed j cur) {i : Nat} {o : Oper} (ho : ops[i]? = some o) (hni : ¬ Lst listed i) (hpred : ∀ e ∈ o.after.toList, Region.binds .any e = true → Lst listed e.on) :
    ∃ en, es[i]? = some en ∧ (∀ t ∈ o.looksAt ops, gd cur.tm t = gd en.st.tm t) ∧ Region.wanted o (aYield ops cur.tm) = Region.wanted o (aYield ops en.st.tm) := by
  have hn : i < ops.size := (Array.getElem?_eq_some_iff.1 ho).1
  have hlen : es.length = ops.size := by have := pass_length _ _ _ _ hps; simpa using this
  have hls : i < listed.size := by rw [I.sz]; exact hn
  have D' : Down ops (Lst (listed.setIfInBounds i true)) := by
    intro k p hp hk e he hb
    rcases (lst_set hls).1 hk with rfl | hk
    · rw [ho] at hp; cases hp
      exact (lst_set hls).2 (.inr (hpred e he hb))
    · exact (lst_set hls).2 (.inr (I.dc k p hp hk e he hb))
  have li : Lst (listed.setIfInBounds i true) i := (lst_set hls).2 (.inl rfl)
  obtain ⟨en, hen, hhe, hwant, hmut, hnw, hyes⟩ := pass_at _ _ _ _ hps i o (by simpa using ho)
  have hstat : stAt es fin i = en.st := by simp [stAt, hen]
  have slot : ∀ t ∈ o.looksAt ops, gd cur.tm t = gd en.st.tm t := by
    intro t ht
    obtain ⟨s1, s2, s3⟩ := static_spec hst ho
    by_cases hex : ∃ k p, ops[k]? = some p ∧ p.dst = some t ∧ k ≠ i
    · obtain ⟨k, p, hp, hpd, hki⟩ := hex
      obtain ⟨q1, q2⟩ := s3 t ht k p hp hpd hki
      have hkn : k < ops.size := (Array.getElem?_eq_some_iff.1 hp).1
      obtain ⟨ek, hek⟩ : ∃ ek, es[k]? = some ek := ⟨es[k], List.getElem?_eq_getElem (by omega)⟩
      have uniq : ∀ k' p', ops[k']? = some p' → p'.dst = some t → k' = k := by
        intro k' p' hp' hpd'
        rcases Nat.lt_trichotomy k' k with x | x | x
        · exact absurd hpd' ((static_spec hst hp).1 t hpd k' p' x hp')
        · exact x
        · exact absurd hpd ((static_spec hst hp').1 t hpd' k p x hp)
      rcases Nat.lt_or_gt_of_ne hki with hlt | hgt
      · have hk := masks_down D' li (q1 hlt)
        have hk : Lst listed k := ((lst_set hls).1 hk).resolve_left hki
        rw [I.t1 k p ek hp hek hk t hpd]
        have := pass_set (P := P) (call := call) (ops := ops) hnt t (below_spec hbe hp hpd) ops.toList st es fin hps i (by simp; omega) k p ek hlt (by simpa using hp) hpd hek (fun k' o' h1 h2 ho' hd' => by
          have := uniq k' o' (by simpa using ho') hd'; omega)
        rw [hstat] at this
        exact this.symm
      · have hnk : ¬ Lst listed k := by
          intro hk
          exact hni (masks_down I.dc hk (q2 hgt))
        rw [I.t2 t (fun k' p' hp' hk' hd' => by have := uniq k' p' hp' hd'; subst this; exact hnk hk')]
        have := pass_keep (P := P) (call := call) (nt := nt) (ops := ops) t ops.toList st es fin hps i (by simp; omega) (fun k' o' h1 ho' hd' => by
          have := uniq k' o' (by simpa using ho') hd'; omega)
        rw [hstat] at this
        exact this.symm
    · have none_ : ∀ k p, ops[k]? = some p → p.dst = some t → k = i := by
        intro k p hp hpd
        by_cases e : k = i
        · exact e
        · exact absurd ⟨k, p, hp, hpd, e⟩ hex
      rw [I.t2 t (fun k' p' hp' hk' hd' => by have := none_ k' p' hp' hd'; subst this; exact hni hk')]
      have := pass_keep (P := P) (call := call) (nt := nt) (ops := ops) t ops.toList st es fin hps i (by simp; omega) (fun k' o' h1 ho' hd' => by
        have := none_ k' o' (by simpa using ho') hd'; omega)
      rw [hstat] at this
      exact this.symm
  have hwe : Region.wanted o (aYield ops cur.tm) = Region.wanted o (aYield ops en.st.tm) := by
    unfold Region.wanted
    cases hg : o.guard with
    | none => rfl
    | some g =>
      obtain ⟨g, want⟩ := g
      simp only
      have : aYield ops cur.tm g = aYield ops en.st.tm g := by
        unfold aYield
        cases hd : (ops[g]?).bind (·.dst) with
        | none => rfl
        | some d =>
          have := slot d (by simp [Oper.looksAt, hg, hd])
          unfold gd at this
          simp only [this]
      rw [this]
  exact ⟨en, hen, slot, hwe⟩
theorem dinv_step {es : List Ent} {fin st : St} {listed : Array Bool} {j : Nat} {cur : St} (hst : drStatic ops = true) (hbe : drBelow nt ops = true) (hnt : nt < 1000000) (hps : pass P call nt ops ops.toList st = some (es, fin)) (hR : drDynR P call ops es fin = true)
    (I : DInv ops es fin st listed j cur) {i : Nat} {o : Oper} (ho : ops[i]? = some o) (hni : ¬ Lst listed i) (hpred : ∀ e ∈ o.after.toList, Region.binds .any e = true → Lst listed e.on) (hM : mutAt es i = true → ∀ k, mutAt es k = true → k < i → Lst listed k) :
    ∃ cur' j', oneOp P call nt ops o cur = some cur' ∧ DInv ops es fin st (listed.setIfInBounds i true) j' cur' := by
  have hn : i < ops.size := (Array.getElem?_eq_some_iff.1 ho).1
  have hlen : es.length = ops.size := by have := pass_length _ _ _ _ hps; simpa using this
  have hls : i < listed.size := by rw [I.sz]; exact hn
  have D' : Down ops (Lst (listed.setIfInBounds i true)) := by
    intro k p hp hk e he hb
    rcases (lst_set hls).1 hk with rfl | hk
    · rw [ho] at hp; cases hp
      exact (lst_set hls).2 (.inr (hpred e he hb))
    · exact (lst_set hls).2 (.inr (I.dc k p hp hk e he hb))
  have li : Lst (listed.setIfInBounds i true) i := (lst_set hls).2 (.inl rfl)
  obtain ⟨en, hen, hhe, hwant, hmut, hnw, hyes⟩ := pass_at _ _ _ _ hps i o (by simpa using ho)
  have hstat : stAt es fin i = en.st := by simp [stAt, hen]
  have slot : ∀ t ∈ o.looksAt ops, gd cur.tm t = gd en.st.tm t := by
    intro t ht
    obtain ⟨s1, s2, s3⟩ := static_spec hst ho
    by_cases hex : ∃ k p, ops[k]? = some p ∧ p.dst = some t ∧ k ≠ i
    · obtain ⟨k, p, hp, hpd, hki⟩ := hex
      obtain ⟨q1, q2⟩ := s3 t ht k p hp hpd hki
      have hkn : k < ops.size := (Array.getElem?_eq_some_iff.1 hp).1
      obtain ⟨ek, hek⟩ : ∃ ek, es[k]? = some ek := ⟨es[k], List.getElem?_eq_getElem (by omega)⟩
      have uniq : ∀ k' p', ops[k']? = some p' → p'.dst = some t → k' = k := by
        intro k' p' hp' hpd'
        rcases Nat.lt_trichotomy k' k with x | x | x
        · exact absurd hpd' ((static_spec hst hp).1 t hpd k' p' x hp')
        · exact x
        · exact absurd hpd ((static_spec hst hp').1 t hpd' k p x hp)
      rcases Nat.lt_or_gt_of_ne hki with hlt | hgt
      · have hk := masks_down D' li (q1 hlt)
        have hk : Lst listed k := ((lst_set hls).1 hk).resolve_left hki
        rw [I.t1 k p ek hp hek hk t hpd]
        have := pass_set (P := P) (call := call) (ops := ops) hnt t (below_spec hbe hp hpd) ops.toList st es fin hps i (by simp; omega) k p ek hlt (by simpa using hp) hpd hek (fun k' o' h1 h2 ho' hd' => by
          have := uniq k' o' (by simpa using ho') hd'; omega)
        rw [hstat] at this
        exact this.symm
      · have hnk : ¬ Lst listed k := by
          intro hk
          exact hni (masks_down I.dc hk (q2 hgt))
        rw [I.t2 t (fun k' p' hp' hk' hd' => by have := uniq k' p' hp' hd'; subst this; exact hnk hk')]
        have := pass_keep (P := P) (call := call) (nt := nt) (ops := ops) t ops.toList st es fin hps i (by simp; omega) (fun k' o' h1 ho' hd' => by
          have := uniq k' o' (by simpa using ho') hd'; omega)
        rw [hstat] at this
        exact this.symm
    · have none_ : ∀ k p, ops[k]? = some p → p.dst = some t → k = i := by
        intro k p hp hpd
        by_cases e : k = i
        · exact e
        · exact absurd ⟨k, p, hp, hpd, e⟩ hex
      rw [I.t2 t (fun k' p' hp' hk' hd' => by have := none_ k' p' hp' hd'; subst this; exact hni hk')]
      have := pass_keep (P := P) (call := call) (nt := nt) (ops := ops) t ops.toList st es fin hps i (by simp; omega) (fun k' o' h1 ho' hd' => by
        have := none_ k' o' (by simpa using ho') hd'; omega)
      rw [hstat] at this
      exact this.symm
  have hwe : Region.wanted o (aYield ops cur.tm) = Region.wanted o (aYield ops en.st.tm) := by
    unfold Region.wanted
    cases hg : o.guard with
    | none => rfl
    | some g =>
      obtain ⟨g, want⟩ := g
      simp only
      have : aYield ops cur.tm g = aYield ops en.st.tm g := by
        unfold aYield
        cases hd : (ops[g]?).bind (·.dst) with
        | none => rfl
        | some d =>
          have := slot d (by simp [Oper.looksAt, hg, hd])
          unfold gd at this
          simp only [this]
      rw [this]
  have slots' : ∀ (v : Value) (h' : Heap), v = en.v → (∀ k o' e', ops[k]? = some o' → es[k]? = some e' → Lst (listed.setIfInBounds i true) k → ∀ t, o'.dst = some t → gd (⟨aput nt cur.tm o.dst v, h'⟩ : St).tm t = e'.v) ∧
      (∀ t, (∀ k o', ops[k]? = some o' → Lst (listed.setIfInBounds i true) k → o'.dst ≠ some t) → gd (⟨aput nt cur.tm o.dst v, h'⟩ : St).tm t = gd st.tm t) := by
    intro v h' hv
    subst hv
    constructor
    · intro k o' e' hk hek hl t hd
      by_cases hki : k = i
      · subst hki
        rw [ho] at hk; cases hk
        rw [hen] at hek; cases hek
        simp only [hd]
        exact gd_put_same (below_spec hbe ho hd) hnt
      · have hl : Lst listed k := ((lst_set hls).1 hl).resolve_left hki
        have hne : o.dst ≠ some t := by
          intro hx
          rcases Nat.lt_or_gt_of_ne hki with hlt | hgt
          · exact (static_spec hst ho).1 t hx k o' hlt hk hd
          · exact (static_spec hst hk).1 t hd i o hgt ho hx
        simp only
        rw [gd_put_other hne]
        exact I.t1 k o' e' hk hek hl t hd
    · intro t ht
      simp only
      rw [gd_put_other (ht i o ho li)]
      exact I.t2 t fun k o' hk hl => ht k o' hk ((lst_set hls).2 (.inr hl))
  have szs : (listed.setIfInBounds i true).size = ops.size := by simp [I.sz]
  cases hw : en.want with
  | false =>
    refine ⟨⟨aput nt cur.tm o.dst undef, cur.h⟩, j, ?_, szs, D', ?_, I.hp, ?_, ?_⟩
    · unfold oneOp
      rw [hwe, ← hwant, hw]
    · intro k hk
      have hki : k ≠ i := by
        rintro rfl
        simp only [mutAt, hen] at hk
        rw [hmut, hw] at hk; cases hk
      rw [lst_set hls, ← I.mu k hk]
      simp [hki]
    · exact (slots' undef cur.h (hnw hw).symm).1
    · exact (slots' undef cur.h (hnw hw).symm).2
  | true =>
    obtain ⟨h', hs, hh'⟩ := hyes hw
    have hcongr : ∀ hp, stepOp P call o cur.tm hp = stepOp P call o en.st.tm hp := by
      intro hp
      refine stepOp_congr fun x hx => aev_congr fun t ht => ?_
      subst ht
      exact slot t (by
        unfold Oper.looksAt
        refine List.mem_append_left _ ?_
        rw [List.mem_filterMap]
        exact ⟨.tmp t, by simpa using hx, rfl⟩)
    cases hm : en.mut_ with
    | true =>
      have hmi : mutAt es i = true := by simp [mutAt, hen, hm]
      have hj1 : j ≤ cnt es i := by
        rcases Nat.lt_or_ge (cnt es i) j with x | x
        · exact absurd ((I.mu i hmi).2 x) hni
        · exact x
      have hj2 : cnt es i ≤ j := by
        rcases Nat.eq_zero_or_pos (cnt es i) with x | x
        · omega
        · obtain ⟨k, k1, k2, k3⟩ := cnt_before es i (by omega) x
          have hk := hM hmi k k2 k1
          have := (I.mu k k2).1 hk
          omega
      have hje : j = cnt es i := by omega
      have hheap : cur.h = en.st.h := by
        have := I.hp
        rw [hje, hhe] at this
        exact (Option.some.inj this).symm
      rw [hm] at hh'
      refine ⟨⟨aput nt cur.tm o.dst en.v, h'⟩, cnt es i + 1, ?_, szs, D', ?_, hh', ?_, ?_⟩
      · unfold oneOp
        rw [hwe, ← hwant, hw]
        simp only
        rw [hcongr, hheap, hs]
      · intro k hk
        rw [lst_set hls, I.mu k hk]
        constructor
        · rintro (rfl | x)
          · omega
          · omega
        · intro x
          by_cases e : cnt es k = cnt es i
          · exact .inl (cnt_inj hk hmi e)
          · exact .inr (by omega)
      · exact (slots' en.v h' rfl).1
      · exact (slots' en.v h' rfl).2
    | false =>
      have hro : readsOnly o.op = true := by
        rw [hm, hw] at hmut
        simpa using hmut.symm
      have hstep : ∃ h2, stepOp P call o en.st.tm cur.h = some (en.v, h2) := by
        by_cases hje : j = cnt es i
        · have hheap : cur.h = en.st.h := by
            have := I.hp
            rw [hje, hhe] at this
            exact (Option.some.inj this).symm
          rw [hheap]; exact ⟨h', hs⟩
        · refine dyn_read hR hen ho hm hw hlen hje I.hp ?_ ?_
          · intro k hk hb
            have hl := masks_down D' li hb
            have hki : k ≠ i := by
              rintro rfl
              simp only [mutAt, hen] at hk
              rw [hm] at hk; cases hk
            exact (I.mu k hk).1 (((lst_set hls).1 hl).resolve_left hki)
          · intro k hk hb
            rcases Nat.lt_or_ge (cnt es k) j with x | x
            · exact absurd (masks_down I.dc ((I.mu k hk).2 x) hb) hni
            · exact x
      obtain ⟨h2, hs2⟩ := hstep
      have hh2 := stepOp_reads hro hs2
      subst hh2
      refine ⟨⟨aput nt cur.tm o.dst en.v, cur.h⟩, j, ?_, szs, D', ?_, I.hp, ?_, ?_⟩
      · unfold oneOp
        rw [hwe, ← hwant, hw]
        simp only
        rw [hcongr, hs2]
      · intro k hk
        have hki : k ≠ i := by
          rintro rfl
          simp only [mutAt, hen] at hk
          rw [hm] at hk; cases hk
        rw [lst_set hls, ← I.mu k hk]
        simp [hki]
      · exact (slots' en.v cur.h rfl).1
      · exact (slots' en.v cur.h rfl).2
theorem dinv_end {es : List Ent} {fin st : St} {listed : Array Bool} {j : Nat} {cur : St} (hst : drStatic ops = true) (hbe : drBelow nt ops = true) (hnt : nt < 1000000) (hps : pass P call nt ops ops.toList st = some (es, fin))
    (I : DInv ops es fin st listed j cur) (hr : Region.ready .any ops listed = []) : cur.h = fin.h ∧ ∀ t, gd cur.tm t = gd fin.tm t := by
  have hlen : es.length = ops.size := by have := pass_length _ _ _ _ hps; simpa using this
  have all : ∀ i, i < ops.size → Lst listed i := by
    intro i
    induction i using Nat.strongRecOn with
    | _ i ih =>
      intro hi
      obtain ⟨o, ho⟩ : ∃ o, ops[i]? = some o := ⟨ops[i], Array.getElem?_eq_getElem hi⟩
      cases hl : listed.getD i false with
      | true => exact hl
      | false =>
        exfalso
        have : i ∈ Region.ready .any ops listed := mem_ready.2 ⟨by
          have hlt : i < listed.size := by rw [I.sz]; exact hi
          simp only [Array.getD, hlt, dif_pos] at hl ⊢; exact hl, o, ho, fun e he hb => by
            have hlt := (static_spec hst ho).2.1 e (by simpa using he) hb
            exact ih e.on hlt (by omega)⟩
        rw [hr] at this; cases this
  obtain ⟨hl1, hl2⟩ := heaps_last es fin
  constructor
  · have hj : j = cnt es es.length := by
      have hjl : j < (heaps es fin).length := by
        rcases Nat.lt_or_ge j (heaps es fin).length with x | x
        · exact x
        · have := I.hp; rw [List.getElem?_eq_none x] at this; cases this
      rcases Nat.eq_zero_or_pos (cnt es es.length) with x | x
      · omega
      · obtain ⟨k, k1, k2, k3⟩ := cnt_before es es.length (Nat.le_refl _) x
        have := (I.mu k k2).1 (all k (by omega))
        omega
    have := I.hp
    rw [hj, hl2] at this
    exact (Option.some.inj this).symm
  · intro t
    have hfin : stAt es fin ops.size = fin := by simp [stAt, hlen]
    by_cases hex : ∃ (k : Nat) (p : Oper), ops[k]? = some p ∧ p.dst = some t
    · obtain ⟨k, p, hp, hpd⟩ := hex
      have hkn : k < ops.size := (Array.getElem?_eq_some_iff.1 hp).1
      obtain ⟨ek, hek⟩ : ∃ ek, es[k]? = some ek := ⟨es[k], List.getElem?_eq_getElem (by omega)⟩
      rw [I.t1 k p ek hp hek (all k hkn) t hpd]
      have := pass_set (P := P) (call := call) (ops := ops) hnt t (below_spec hbe hp hpd) ops.toList st es fin hps ops.size (by simp) k p ek hkn (by simpa using hp) hpd hek (fun k' o' h1 h2 ho' hd' => by
        exact (static_spec hst (by simpa using ho')).1 t hd' k p h1 hp hpd)
      rw [hfin] at this
      exact this.symm
    · rw [I.t2 t (fun k p hp _ hd => hex ⟨k, p, hp, hd⟩)]
      have := pass_keep (P := P) (call := call) (nt := nt) (ops := ops) t ops.toList st es fin hps ops.size (by simp) (fun k o h1 ho hd => hex ⟨k, o, by simpa using ho, hd⟩)
      rw [hfin] at this
      exact this.symm
end
def left (listed : Array Bool) (n : Nat) : Nat := ((List.range n).filter fun i => !listed.getD i false).length
theorem left_set {listed : Array Bool} {n i : Nat} (hi : i < n) (hs : n = listed.size) (hl : listed.getD i false = false) : left (listed.setIfInBounds i true) n + 1 = left listed n := by
  unfold left
  have key : ∀ m, m ≤ n → ((List.range m).filter fun k => !(listed.setIfInBounds i true).getD k false).length + (if i < m then 1 else 0) = ((List.range m).filter fun k => !listed.getD k false).length := by
    intro m
    induction m with
    | zero => intro _; simp
    | succ m ih =>
      intro hm
      have := ih (by omega)
      rw [List.range_succ, List.filter_append, List.filter_append, List.length_append, List.length_append]
      by_cases e : m = i
      · subst e
        have e1 : (listed.setIfInBounds m true).getD m false = true := by simp [show m < listed.size by omega]
        rw [if_neg (by omega)] at this
        rw [if_pos (by omega)]
        simp only [List.filter_cons, e1, hl, Bool.not_true, Bool.not_false, List.filter_nil, if_true, Bool.false_eq_true, if_false, List.length_nil, List.length_cons]
        omega
      · have e1 : (listed.setIfInBounds i true).getD m false = listed.getD m false := getD_set_ne false (fun x => e x.symm)
        rw [show (List.filter (fun k => !(listed.setIfInBounds i true).getD k false) [m]) = List.filter (fun k => !listed.getD k false) [m] from by simp only [List.filter_cons, e1, List.filter_nil]]
        by_cases hlt : i < m
        · rw [if_pos hlt] at this; rw [if_pos (by omega)]; omega
        · rw [if_neg hlt] at this; rw [if_neg (by omega)]; omega
  have := key n (Nat.le_refl n)
  rw [if_pos hi] at this
  exact this
theorem drAny_ok {P : Program} (hf : P.follows .mixedOrders = true) : DrOk P (drAny P) := by
  intro call hcall id nt ops st st' e F hF n n0 ρ a w S
  unfold drAny at e
  split at e
  case h_2 => cases e
  rename_i hck
  simp only [Bool.and_eq_true] at hck
  obtain ⟨hst, hbe⟩ := hck
  split at e
  case h_2 => cases e
  rename_i es fin hps
  rw [passQ_eq] at hps
  split at e
  case h_2 => cases e
  rename_i hdy
  cases e
  refine wpIn_region_any hf ?_
  have main : ∀ (fuel : Nat) (listed : Array Bool) (j : Nat) (cur : St) (ρ₁ : Rho) (a₁ : Act) (w₁ : World), left listed ops.size = fuel → DInv ops es st' st listed j cur → SRel n0 ρ₁ nt cur a₁ w₁ → Grow ρ ρ₁ w → Fr ρ w w₁ →
      wpAnyIn F n P .any ops (PostX n0 ρ w nt .normal st') fuel listed a₁ w₁ := by
    intro fuel
    induction fuel with
    | zero =>
      intro listed j cur ρ₁ a₁ w₁ hl I S₁ g f
      have hr : Region.ready .any ops listed = [] := by
        rw [List.eq_nil_iff_forall_not_mem]
        intro i hi
        obtain ⟨h1, o, ho, _⟩ := mem_ready.1 hi
        have hn : i < ops.size := (Array.getElem?_eq_some_iff.1 ho).1
        have hlt : i < listed.size := by rw [I.sz]; exact hn
        have h1' : listed.getD i false = false := by
          simp only [Array.getD, hlt, dif_pos] at h1 ⊢; exact h1
        have hmem : i ∈ (List.range ops.size).filter fun i => !listed.getD i false := by
          rw [List.mem_filter]; exact ⟨List.mem_range.2 hn, by rw [h1']; rfl⟩
        have : (List.range ops.size).filter (fun i => !listed.getD i false) = [] := List.length_eq_zero_iff.1 hl
        rw [this] at hmem; cases hmem
      obtain ⟨q1, q2⟩ := dinv_end hst hbe S.s hps I hr
      refine ⟨hr, rfl, ρ₁, g, f, ?_, ?_, S₁.d, S₁.n, S₁.s, S₁.z⟩
      · rw [← q1]; exact S₁.h
      · intro t; have := S₁.t t; have e2 := q2 t; unfold gd at e2; rw [← e2]; exact this
    | succ fuel ih =>
      intro listed j cur ρ₁ a₁ w₁ hl I S₁ g f
      refine ⟨fun hr => ?_, fun i hi => ?_⟩
      · obtain ⟨q1, q2⟩ := dinv_end hst hbe S.s hps I hr
        refine ⟨rfl, ρ₁, g, f, ?_, ?_, S₁.d, S₁.n, S₁.s, S₁.z⟩
        · rw [← q1]; exact S₁.h
        · intro t; have := S₁.t t; have e2 := q2 t; unfold gd at e2; rw [← e2]; exact this
      · obtain ⟨h1, o, ho, hpred⟩ := mem_ready.1 hi
        have hn : i < ops.size := (Array.getElem?_eq_some_iff.1 ho).1
        have hlt : i < listed.size := by rw [I.sz]; exact hn
        have h1' : listed.getD i false = false := by
          simp only [Array.getD, hlt, dif_pos] at h1 ⊢; exact h1
        obtain ⟨cur', j', q1, q2⟩ := dinv_step hst hbe S.s hps (dyn_R hdy) I ho (by unfold Lst; rw [h1']; simp) (fun e he hb => hpred e (by simpa using he) hb) (fun hmi k k2 k1 => by
            have hb := dyn_mut hdy hn hmi k2 k1
            have hk := masks_down (down_set hlt I.dc ho (fun e he hb => hpred e (by simpa using he) hb)) ((lst_set hlt).2 (.inl rfl)) hb
            exact ((lst_set hlt).1 hk).resolve_left (by omega))
        unfold wpOpIn
        rw [ho]
        refine oneOp_sound hF hcall S₁ q1 _ ?_ _
        rintro a' w' ⟨ρ₂, g2, f2, S₂⟩
        exact ih _ j' cur' ρ₂ a' w' (by have := left_set hn I.sz.symm h1'; omega) q2 S₂ (g.trans f.size g2) (f.trans g f2)
  have h0 : ∀ n, left (Array.replicate n false) n = n := by
    intro n
    unfold left
    rw [List.filter_eq_self.2]
    · simp
    · intro k hk
      have : k < n := by simpa using hk
      simp [this]
  have nl : ∀ k, ¬ Lst (Array.replicate ops.size false) k := by
    intro k hk
    unfold Lst at hk
    by_cases hkn : k < ops.size
    · simp [hkn] at hk
    · simp [hkn] at hk
  refine main ops.size (Array.replicate ops.size false) 0 st ρ a _ (h0 ops.size) ?_ ⟨S.h.drew, S.t, S.d.go (.refl _ _) (Fr.refl ρ w).drew, S.n, S.s, S.z⟩ (.refl _ _) (Fr.refl ρ w).drew
  exact ⟨by simp, fun i o _ hi => absurd hi (nl i), fun i _ => ⟨fun hi => absurd hi (nl i), fun x => absurd x (Nat.not_lt_zero _)⟩, pass_heads _ _ _ _ hps, fun k o e _ _ hk => absurd hk (nl k), fun t _ => rfl⟩
end
end Go.Vai

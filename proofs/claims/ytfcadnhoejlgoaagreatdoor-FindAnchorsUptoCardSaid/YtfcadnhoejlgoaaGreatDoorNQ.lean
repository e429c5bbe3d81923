/-
  What is proved here: what a step of the search and the whole search come to, in plain terms (part NQ). what the laws over patterns ask for, in plain terms (part NV). the forms of signs, as data (part NU). No conditions but those that the theorems state.
-/
import Derived.Test.YtfcadnhoejlgoaaGreatDoorNI
import Derived.Test.YtfcadnhoejlgoaaGreatDoorPureNfa3
import Derived.Test.YtfcadnhoejlgoaaGreatDoorRJ
set_option linter.unusedVariables false
set_option linter.unusedSimpArgs false
namespace Go.Vai
open Go.Nfa
noncomputable section
def FitS (S : List Sta) : Prop := ∀ (set : List (Int × Int)) (no : Bool) (x : Nat), Sta.takes set no x ∈ S → set.length < 4611686018427387904
def goQ (S : List Sta) (l : List Int) (p n : Nat) (first sz : Int) (now0 : List Nat) : D → List Ob → Prop := fun r L1 => ∃ seen now nn, r = .tup [] ∧ SI S l p now0 now0.length seen now ∧ now.length = nn ∧ seen.length = n ∧ L1 = tbl S l (p + 1) n nn first sz seen now
theorem mem_idxs {b : List Bool} {j : Nat} : j ∈ idxs b ↔ Nfa.mk b j := by
 unfold idxs Nfa.mk
 rw [List.mem_filter, List.mem_range]
 constructor
 ·
  rintro ⟨h, e⟩
  rw [getD_some (d := false) h, e]
 ·
  intro e
  have h := (List.getElem?_eq_some_iff.1 e).1
  exact ⟨h, getD_of e⟩
theorem idxs_srt (b : List Bool) : (idxs b).Pairwise (· < ·) := List.Pairwise.filter _ List.pairwise_lt_range
theorem ends_eq {N : Nd} (hl : allLoc locB N) {l : List Int} {a : Nat} {es : List Nat} {S : List Sta} {s0 : Nat} (hS : machine K14 N = (S, s0)) (ha : a ≤ l.length) (hp : es.Pairwise (· < ·)) (hm : ∀ j, j ∈ es ↔ ∃ t, RC S l s0 a t j ∧ S[t]? = some .done) : es = endsR l N ((a : Nat) : Int) := by
 rw [endsR_in (by omega), Int.toNat_natCast]
 refine sorted_ext hp (idxs_srt _) fun j => ?_
 have := ends_mem K14 l (loc_ok N hl) (i := a) (j := j)
 rw [hS] at this
 rw [hm, mem_idxs, marks_mem K14 l (loc_ok N hl) ha, this]
theorem sl_of {es fs : List Nat} {m : Nat} (h : es = fs) (hm : es.length = m) : D.sl 1 m (es.map natD) = .sl 1 fs.length (fs.map natD) := by subst h hm; rfl
theorem sta_cell0 {S : List Sta} {x : Nat} {σ : Sta} (h : S[x]? = some σ) : (S.flatMap encSta)[x * 9 + 0]? = (encSta σ)[0]? := by
 have := congrArg (fun l => l[0]?) (flat_part encSta_len h)
 simpa [List.getElem?_take, List.getElem?_drop] using this
theorem plain_lt {S : List Sta} {s : Nat} (h : plain S s) : s < S.length := by
 rcases h with ⟨_, _, _, h⟩ | h <;> exact (List.getElem?_eq_some_iff.1 h).1
theorem rep_fresh {S : List Sta} {n a len : Nat} (h : S.length = n) : Nfa.Ent S len a (fun _ => False) (List.replicate n 0) [] [] :=
 Ent.fresh (by simp [h]) fun s v e => by have := List.eq_of_mem_replicate (List.mem_of_getElem? e); omega
end
end Go.Vai
namespace Go.Vai
open Go.Nfa
noncomputable section
theorem FnD.known {P : Program} {ov : Ov} {f : FuncId} {fn : List Value → Heap → Option (Value × Heap)} (hov : ov f = some fn) (hg : ∀ h, fn [] h = some (.bool true, h)) : PureD P ov f [] (.bool true) := by
 intro M g a vs ok old hlen nd hcl hobj hargs
 cases hargs
 refine Fn.known hov hg ⟨.bool true, [], g, CR.bool, hlen, Nat.le_refl _, nd, fun k hk => ⟨(hcl k hk).1, (hcl k hk).2, .inl hk⟩, hobj, Keep.refl _ _, ok, fun i b k cs e _ => e, fun i cs _ e => ⟨cs, e⟩, rfl, rfl⟩
theorem FitS.app {L : List Sta} {σ : Sta} (h : FitS L) (hσ : ∀ set no x, σ = .takes set no x → set.length < 4611686018427387904) : FitS (L ++ [σ]) := by
 intro set no x hx
 rcases List.mem_append.1 hx with q | q
 · exact h set no x q
 · simp at q; exact hσ set no x q.symm
theorem FitS.set {L : List Sta} {σ : Sta} {i : Nat} (h : FitS L) (hσ : ∀ set no x, σ = .takes set no x → set.length < 4611686018427387904) : FitS (L.set i σ) := by
 intro set no x hx
 rcases List.mem_or_eq_of_mem_set hx with q | q
 · exact h set no x q
 · exact hσ set no x q.symm
mutual
theorem build_fs : ∀ (n : Nd), fit n → ∀ (L : List Sta) (next : Nat), FitS L → FitS (build K14 n L next).1
 | .mk k set no kids mn mx, hf, L, next, h => by
  have hk := hf.2.2.2.2
  rw [build14_mk]
  split
  · exact h.app (fun _ _ _ e => by cases e; exact hf.1)
  ·
   split
   · exact h.app (fun _ _ _ e => by cases e)
   ·
    split
    · exact h.app (fun _ _ _ e => by cases e)
    ·
     split
     · exact buildCat_fs kids hk L next h
     ·
      split
      ·
       cases kids with
       | nil => rw [buildAlt]; exact h
       | cons x ns =>
        rw [fitL] at hk
        rw [buildAlt]
        exact buildOr_fs ns hk.2 next _ (build_fs x hk.1 L next h)
      ·
       split
       ·
        cases kids with
        | nil => rw [buildRep]; exact h
        | cons x ns =>
         rw [fitL] at hk
         have hb : ∀ (L : List Sta) (next : Nat), FitS L → FitS (build K14 x L next).1 := build_fs x hk.1
         rw [buildRep_eq (x := x) rfl]
         have h0 : FitS (rep0 (build K14 x) mx L next).1 := by
          unfold rep0
          split
          · exact (hb _ _ (h.app fun _ _ _ e => by cases e)).set fun _ _ _ e => by cases e
          · exact h
         have h1 := fold_tg (f := fun r => rep1 (build K14 x) (rep0 (build K14 x) mx L next).2 r) (q := fun r => FitS r.1) (fun r hr => (hb _ _ hr).app fun _ _ _ e => by cases e) (mx - mn).toNat _ h0
         exact fold_tg (f := fun r => rep2 (build K14 x) r) (q := fun r => FitS r.1) (fun r hr => hb _ _ hr) mn.toNat _ h1
       · exact h
theorem buildCat_fs : ∀ (ns : List Nd), fitL ns → ∀ (L : List Sta) (next : Nat), FitS L → FitS (buildCat K14 ns L next).1
 | [], _, L, next, h => by rw [buildCat]; exact h
 | n :: ns, hf, L, next, h => by
  rw [fitL] at hf
  rw [buildCat]
  exact build_fs n hf.1 _ _ (buildCat_fs ns hf.2 L next h)
theorem buildOr_fs : ∀ (ns : List Nd), fitL ns → ∀ (next : Nat) (r : List Sta × Nat), FitS r.1 → FitS (buildOr K14 ns next r).1
 | [], _, next, r, h => by rw [buildOr]; exact h
 | n :: ns, hf, next, r, h => by
  rw [fitL] at hf
  rw [buildOr]
  exact buildOr_fs ns hf.2 next _ ((build_fs n hf.1 r.1 next h).app fun _ _ _ e => by cases e)
end
theorem machine_fs {n : Nd} (h : fit n) : FitS (machine K14 n).1 := build_fs n h _ _ (fun _ _ _ e => by simp at e)
theorem machine_len {N : Nd} (hl : allLoc locB N) (h : wp K14 20001 N ≤ 20000) : (machine K14 N).1.length ≤ 1000000 := by
 have h1 := build_len N hl [.done] 0
 have h2 := wp_ok K14 20001 N
 have : (machine K14 N).1.length = (build K14 N [.done] 0).1.length := rfl
 simp only [List.length_singleton] at h1
 omega
theorem endsR_len (l : List Int) (N : Nd) (at_ : Int) (hl : allLoc locB N) : (endsR l N at_).length ≤ l.length + 1 := by
 unfold endsR
 split
 · simp
 ·
  unfold idxs
  rw [fromF_len hl only_len]
  exact Nat.le_trans (List.length_filter_le _ _) (by simp)
mutual
theorem mayR_iff : ∀ n : Nd, mayR n = true ↔ allLoc locB n
 | .mk k set no kids mn mx => by rw [mayR, allLoc, Bool.and_eq_true, mayRL_iff kids]; exact and_comm
theorem mayRL_iff : ∀ ns : List Nd, mayRL ns = true ↔ allLocL locB ns
 | [] => by rw [mayRL, allLocL]; simp
 | n :: ns => by rw [mayRL, allLocL, Bool.and_eq_true, mayR_iff n, mayRL_iff ns]
end
theorem cnt_loc {N : Nd} (h : Nfa.cnt locB N 1 ≤ 2000) : allLoc locB N := ((Nfa.cnt_ok locB N 1).2 h).2.2
theorem wr_big {N : Nd} (h : ¬ wp K14 20001 N ≤ 20000) : ¬ wr K14 1000000 N ≤ 20000 := fun q => h ((weights K14 (c := 20000) (d := 1000000) (by omega) N).1.2 q)
theorem wr_small {N : Nd} (h : wp K14 20001 N ≤ 20000) : wr K14 1000000 N ≤ 20000 ∧ wp K14 20001 N = wr K14 1000000 N := ⟨(weights K14 (c := 20000) (d := 1000000) (by omega) N).1.1 h, (weights K14 (c := 20000) (d := 1000000) (by omega) N).2 h⟩
end
end Go.Vai
namespace Go.Vai
noncomputable section
def formL : List (List Nat × List Nat) := [([0],[127]),([194,128],[223,191]),([224,160,128],[224,191,191]),([225,128,128],[236,191,191]),([237,128,128],[237,159,191]),([238,128,128],[239,191,191]),([240,144,128,128],[240,191,191,191]),([241,128,128,128],[243,191,191,191]),([244,128,128,128],[244,143,191,191])]
def u8D (n : Nat) : D := .int .u8 ((n : Nat) : Int)
def encF (f : List Nat × List Nat) : List D := [.sl 1 f.1.length (f.1.map u8D), .sl 1 f.2.length (f.2.map u8D)]
theorem encF_len (f : List Nat × List Nat) : (encF f).length = 2 := rfl
theorem formL_ok {i : Nat} {f : List Nat × List Nat} (h : formL[i]? = some f) : f.1.length = f.2.length ∧ 1 ≤ f.1.length ∧ f.1.length ≤ 4 := by
 have : ∀ f ∈ formL, f.1.length = f.2.length ∧ 1 ≤ f.1.length ∧ f.1.length ≤ 4 := by decide
 exact this f (List.mem_of_getElem? h)
theorem form_cell0 {i : Nat} {f : List Nat × List Nat} (h : formL[i]? = some f) : (formL.flatMap encF)[i * 2 + 0]? = some (.sl 1 f.1.length (f.1.map u8D)) := by
 have := congrArg (fun l => l[0]?) (flat_part encF_len h)
 simpa [List.getElem?_take, List.getElem?_drop, encF] using this
theorem form_cell1 {i : Nat} {f : List Nat × List Nat} (h : formL[i]? = some f) : (formL.flatMap encF)[i * 2 + 1]? = some (.sl 1 f.2.length (f.2.map u8D)) := by
 have := congrArg (fun l => l[1]?) (flat_part encF_len h)
 simpa [List.getElem?_take, List.getElem?_drop, encF] using this
theorem form_get {i : Nat} (h : i < 9) : ∃ f, formL[i]? = some f := ⟨_, List.getElem?_eq_getElem (show i < formL.length from h)⟩
theorem take_sl {α : Type} {f : α → D} {xs : List α} {u : Nat} : D.sl 1 (u - 0) (((xs.map f).drop (0 * 1)).take ((u - 0) * 1)) = .sl 1 u ((xs.take u).map f) := by
 rw [Nat.zero_mul, List.drop_zero, Nat.sub_zero, Nat.mul_one, List.map_take]
theorem text_of {l : List Int} {n c : Nat} (h : l.length = n) : ∃ m : List Int, D.sl 1 (min n c) ((l.take (min n c)).map (D.int .i32)) = .sl 1 m.length (m.map (D.int .i32)) ∧ m.length ≤ c :=
 ⟨l.take (min n c), by rw [List.length_take, h, Nat.min_eq_left (Nat.min_le_left n c)], by rw [List.length_take]; omega⟩
end
end Go.Vai

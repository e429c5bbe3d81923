/-
  What is proved here: stars of stars of one sign match just the rows of that sign. No conditions. (No program in sight.) What is proved here: so many times a sign, at a row of that sign: which places are reached. No conditions. (No program in sight.) What is proved here: the texts of repeats, and what they are read as (part ENa). No conditions.
-/
import Derived.Test.YtiebldaihnbkmaaGreatDoorNQ
import Derived.Test.YtiebldaihnbkmaaGreatDoorUG
import Derived.Test.YtiebldaihnbkmaaGreatDoorRM
set_option linter.unusedVariables false
set_option linter.unusedSimpArgs false
namespace Go.Vai
open Go.Nfa
theorem one_iff {l : List Int} {i j : Nat} : M K14 l (.mk 2 [(97, 97)] false [] 0 0) i j ↔ j = i + 1 ∧ l[i]? = some 97 := by
 rw [M_eq]
 constructor
 ·
  rintro (⟨_, h1, r, h2, h3⟩ | h | h | h | h | h)
  ·
   refine ⟨h1, ?_⟩
   have : r = 97 := by
    simp only [inSet, List.any_cons, List.any_nil, Bool.or_false, Bool.not_false] at h3
    split at h3
    · rename_i h; simp only [Bool.and_eq_true, decide_eq_true_eq] at h; omega
    · cases h3
   rw [h2, this]
  · exact absurd h.1 (by decide)
  · exact absurd h.1 (by decide)
  · exact absurd h.1 (by decide)
  · exact absurd h.1 (by decide)
  · exact absurd h.1 (by decide)
 ·
  rintro ⟨h1, h2⟩
  exact .inl ⟨rfl, h1, 97, h2, by decide⟩
end Go.Vai
namespace Go.Vai
open Go.Nfa
abbrev aN : Nd := .mk 2 [(97, 97)] false [] 0 0
def tN (m : Nat) (mx : Int) : Nd := .mk 5 [] false [aN] m mx
theorem times_a {k : Nat} : ∀ (t : Nat) {i j : Nat}, Times (M K14 (List.replicate k 97) aN) t i j ↔ j = i + t ∧ (t = 0 ∨ j ≤ k) := by
 intro t
 induction t with
 | zero => intro i j; exact ⟨fun h => ⟨h.symm, .inl rfl⟩, fun h => h.1.symm⟩
 | succ t ih =>
  intro i j
  simp only [Times]
  constructor
  ·
   rintro ⟨m, h1, h2⟩
   obtain ⟨rfl, h3⟩ := one_iff.1 h1
   have h4 := (List.getElem?_eq_some_iff.1 h3).1
   rw [List.length_replicate] at h4
   have := ih.1 h2
   omega
  ·
   rintro ⟨h1, h2⟩
   refine ⟨i + 1, one_iff.2 ⟨rfl, ?_⟩, ih.2 (by omega)⟩
   rw [List.getElem?_replicate, if_pos (by omega)]
theorem t_iff {k m : Nat} {mx : Int} {j : Nat} : M K14 (List.replicate k 97) (tN m mx) 0 j ↔ m ≤ j ∧ (mx < 0 ∨ (j : Int) ≤ mx) ∧ j ≤ k := by
 rw [tN, M_eq]
 constructor
 ·
  rintro (h | h | h | h | h | ⟨_, t, h1, h2, h⟩)
  · exact absurd h.1 (by decide)
  · exact absurd h.1 (by decide)
  · exact absurd h.1 (by decide)
  · exact absurd h.1 (by decide)
  · exact absurd h.1 (by decide)
  ·
   have := (times_a t).1 h
   obtain ⟨e, h3⟩ := this
   rw [Nat.zero_add] at e; subst e
   exact ⟨by omega, h2, by omega⟩
 ·
  rintro ⟨h1, h2, h3⟩
  refine .inr (.inr (.inr (.inr (.inr ⟨rfl, j, by omega, h2, ?_⟩))))
  exact (times_a j).2 ⟨by omega, .inr h3⟩
def tE (m b : Nat) : List Nat := (List.range (b + 1 - m)).map (· + m)
theorem tE_len (m b : Nat) : (tE m b).length = b + 1 - m := by simp [tE]
theorem tE_get {m b x : Nat} (h : x < b + 1 - m) : (tE m b).getD x 0 = x + m := by
 simp [tE, List.getD_eq_getElem?_getD, List.getElem?_map, List.getElem?_range h]
theorem t_ends {l : List Int} {k m b : Nat} {mx : Int} (hL : l = List.replicate k 97) (hl : allLoc locB (tN m mx)) (hb : b ≤ k) (h : ∀ j : Nat, j ≤ k → ((mx < 0 ∨ (j : Int) ≤ mx) ↔ j ≤ b)) : endsR l (tN m mx) ((0 : Nat) : Int) = tE m b := by
 subst hL
 symm
 rw [endsR_in (by omega), Int.toNat_natCast]
 refine sorted_ext ?_ (idxs_srt _) fun j => ?_
 ·
  refine List.Pairwise.map _ ?_ List.pairwise_lt_range
  intro a b h; omega
 ·
  rw [mem_idxs, marks_mem K14 _ (loc_ok _ hl) (Nat.zero_le _), t_iff]
  simp only [tE, List.mem_map, List.mem_range]
  constructor
  ·
   rintro ⟨x, h1, rfl⟩
   exact ⟨by omega, (h _ (by omega)).2 (by omega), by omega⟩
  ·
   rintro ⟨h1, h2, h3⟩
   have := (h j h3).1 h2
   exact ⟨j - m, by omega, by omega⟩
end Go.Vai
set_option maxRecDepth 100000
set_option maxHeartbeats 4000000
namespace Go.Vai
open Go.Nfa
noncomputable section
def numT (k : Nat) : ByteArray := strOfNums [((48 + k : Nat) : Int)]
def reT (m n : Nat) : ByteArray := ((((⟨#[97, 123]⟩ : ByteArray) ++ numT m) ++ (⟨#[44]⟩ : ByteArray)) ++ numT n) ++ (⟨#[125]⟩ : ByteArray)
def reU (m : Nat) : ByteArray := ((⟨#[97, 123]⟩ : ByteArray) ++ numT m) ++ (⟨#[44, 125]⟩ : ByteArray)
theorem numT_size (k : Nat) : (numT k).size = 1 := rfl
theorem reT_size (m n : Nat) : (reT m n).size = 6 := by unfold reT; simp only [ByteArray.size_append, numT_size]; rfl
theorem reU_size (m : Nat) : (reU m).size = 5 := by unfold reU; simp only [ByteArray.size_append, numT_size]; rfl
def isT (o : Option Nd) (m : Nat) (mx : Int) : Bool := match o with
 | some (.mk k [] false [.mk k2 [(a, b)] false [] c d] x y) => decide (k = 5 ∧ k2 = 2 ∧ a = 97 ∧ b = 97 ∧ c = 0 ∧ d = 0 ∧ x = (m : Int) ∧ y = mx)
 | _ => false
theorem isT_ok {o : Option Nd} {m : Nat} {mx : Int} (h : isT o m mx = true) : o = some (tN m mx) := by
 unfold isT at h
 split at h
 ·
  obtain ⟨h1, h2, h3, h4, h5, h6, h7, h8⟩ := of_decide_eq_true h
  rw [h1, h2, h3, h4, h5, h6, h7, h8]; rfl
 · cases h
def isNo (o : Option Nd) : Bool := match o with
 | none => true
 | some _ => false
theorem isNo_ok {o : Option Nd} (h : isNo o = true) : o = none := by
 cases o with
 | none => rfl
 | some x => cases h
theorem b_true {c x y : Bool} (k : (match c with | true => x | false => y) = true) (h : c = true) : x = true := by subst h; exact k
theorem b_false {c x y : Bool} (k : (match c with | true => x | false => y) = true) (h : c = false) : y = true := by subst h; exact k
theorem tabT : ((List.range 10).all fun m => (List.range 10).all fun n => match Nat.ble m n with
  | true => isT (parseM (reT m n)) m (Int.ofNat n)
  | false => isNo (parseM (reT m n))) = true := by kernel_rfl
theorem tabU : ((List.range 10).all fun m => isT (parseM (reU m)) m (-1)) = true := by kernel_rfl
theorem parse_t {m n : Nat} (hm : m < 10) (hn : n < 10) (h : m ≤ n) : parseM (reT m n) = some (tN m (n : Int)) := by
 have := List.all_eq_true.1 (List.all_eq_true.1 tabT m (List.mem_range.2 hm)) n (List.mem_range.2 hn)
 have hb : Nat.ble m n = true := by simpa using h
 exact isT_ok (b_true this hb)
theorem parse_tn {m n : Nat} (hm : m < 10) (hn : n < 10) (h : n < m) : parseM (reT m n) = none := by
 have := List.all_eq_true.1 (List.all_eq_true.1 tabT m (List.mem_range.2 hm)) n (List.mem_range.2 hn)
 have hb : Nat.ble m n = false := by
  cases e : Nat.ble m n with
  | false => rfl
  | true => have := Nat.le_of_ble_eq_true e; omega
 exact isNo_ok (b_false this hb)
theorem parse_u {m : Nat} (hm : m < 10) : parseM (reU m) = some (tN m (-1)) := isT_ok (List.all_eq_true.1 tabU m (List.mem_range.2 hm))
theorem smallT : ((List.range 10).all fun m => (List.range 11).all fun n => Nat.ble (Nfa.cnt locB (tN m (Int.ofNat n - 1)) 1) 2000 && Nat.ble (wp K14 20001 (tN m (Int.ofNat n - 1))) 20000 || Nat.blt (n - 1) m && Nat.blt 0 n) = true := by kernel_rfl
theorem t_small {m : Nat} {mx : Int} (hm : m < 10) (h : mx = -1 ∨ (m ≤ mx ∧ mx < 10)) : Nfa.cnt locB (tN m mx) 1 ≤ 2000 ∧ wp K14 20001 (tN m mx) ≤ 20000 := by
 obtain ⟨n, hn⟩ : ∃ n : Nat, mx = Int.ofNat n - 1 := ⟨(mx + 1).toNat, by simp only [Int.ofNat_eq_natCast]; omega⟩
 have hn' : mx = (n : Int) - 1 := hn
 have := List.all_eq_true.1 (List.all_eq_true.1 smallT m (List.mem_range.2 hm)) n (List.mem_range.2 (by omega))
 rw [← hn, Bool.or_eq_true, Bool.and_eq_true, Bool.and_eq_true] at this
 rcases this with ⟨h1, h2⟩ | ⟨h1, h2⟩
 · exact ⟨Nat.le_of_ble_eq_true h1, Nat.le_of_ble_eq_true h2⟩
 ·
  rw [Nat.blt_eq] at h1 h2
  omega
theorem comp_no {N : Nd} {r : D} {L1 : List Ob} (h : (Nfa.cnt locB N 1 ≤ 2000 ∧ ¬ wp K14 20001 N ≤ 20000 ∧ r = .tup [.lit (.pointer none), .int .i64 3] ∧ L1 = []) ∨ (¬ Nfa.cnt locB N 1 ≤ 2000 ∧ r = .tup [.lit (.pointer none), .int .i64 5] ∧ L1 = []))
  (k : Nfa.cnt locB N 1 ≤ 2000 ∧ wp K14 20001 N ≤ 20000) : False := by
 rcases h with ⟨_, h, _⟩ | ⟨h, _⟩
 · exact h k.2
 · exact h k.1
theorem tE_last {m b x : Nat} (h : x + 1 = (tE m b).length) : (tE m b).getD x 0 = b := by
 rw [tE_len] at h
 rw [tE_get (by omega)]; omega
theorem tE_first {m b : Nat} (h : 0 < (tE m b).length) : (tE m b).getD 0 0 = m := by
 rw [tE_len] at h
 rw [tE_get (by omega)]; omega
end
end Go.Vai

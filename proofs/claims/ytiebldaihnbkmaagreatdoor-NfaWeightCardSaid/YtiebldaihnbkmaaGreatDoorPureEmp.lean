/-
  What is proved here: stars of stars of one sign match just the rows of that sign. No conditions. (No program in sight.) What is proved here: so many times a sign, at a row of that sign: which places are reached. No conditions. (No program in sight.) What is proved here: the texts of repeats, and what they are read as (part ENa). No conditions. What is proved here: repeats in repeats: their texts, what they are read as, what they weigh (part EWa). No conditions.
-/
import Derived.Test.YtiebldaihnbkmaaGreatDoorNQ
import Derived.Test.YtiebldaihnbkmaaGreatDoorUG
import Derived.Test.YtiebldaihnbkmaaGreatDoorRM
import Derived.Lib.ValidAsc
set_option linter.unusedVariables false
set_option linter.unusedSimpArgs false
namespace Go.Vai
open Go.Nfa
def Run (l : List Int) (i j : Nat) : Prop := i ≤ j ∧ ∀ x, i ≤ x → x < j → l[x]? = some 97
theorem Run.trans {l : List Int} {i m j : Nat} (h : Run l i m) (k : Run l m j) : Run l i j := ⟨Nat.le_trans h.1 k.1, fun x h1 h2 => by
 by_cases hx : x < m
 · exact h.2 x h1 hx
 · exact k.2 x (by omega) h2⟩
end Go.Vai
namespace Go.Vai
open Go.Nfa
end Go.Vai
set_option maxRecDepth 100000
set_option maxHeartbeats 4000000
namespace Go.Vai
open Go.Nfa
noncomputable section
def numT (k : Nat) : ByteArray := strOfNums [((48 + k : Nat) : Int)]
def reT (m n : Nat) : ByteArray := ((((⟨#[97, 123]⟩ : ByteArray) ++ numT m) ++ (⟨#[44]⟩ : ByteArray)) ++ numT n) ++ (⟨#[125]⟩ : ByteArray)
def reU (m : Nat) : ByteArray := ((⟨#[97, 123]⟩ : ByteArray) ++ numT m) ++ (⟨#[44, 125]⟩ : ByteArray)
theorem numT_size (k : Nat) : (numT k).size = 1 := rfl
theorem reT_size (m n : Nat) : (reT m n).size = 6 := by unfold reT; simp only [ByteArray.size_append, numT_size]; rfl
theorem reU_size (m : Nat) : (reU m).size = 5 := by unfold reU; simp only [ByteArray.size_append, numT_size]; rfl
theorem comp_no {N : Nd} {r : D} {L1 : List Ob} (h : (Nfa.cnt locB N 1 ≤ 2000 ∧ ¬ wp K14 20001 N ≤ 20000 ∧ r = .tup [.lit (.pointer none), .int .i64 3] ∧ L1 = []) ∨ (¬ Nfa.cnt locB N 1 ≤ 2000 ∧ r = .tup [.lit (.pointer none), .int .i64 5] ∧ L1 = []))
  (k : Nfa.cnt locB N 1 ≤ 2000 ∧ wp K14 20001 N ≤ 20000) : False := by
 rcases h with ⟨_, h, _⟩ | ⟨h, _⟩
 · exact h k.2
 · exact h k.1
end
end Go.Vai
set_option maxRecDepth 100000
namespace Go.Vai
open Go.Nfa Go.Utf
noncomputable section
theorem bytes_eq (s : ByteArray) : bytesOf s = s.data.toList.map (·.toNat) := by
 refine List.ext_getElem? fun i => ?_
 unfold bytesOf
 rw [List.getElem?_map, List.getElem?_map]
 by_cases h : i < s.size
 ·
  have h2 : i < s.data.toList.length := by rw [Array.length_toList]; exact h
  rw [List.getElem?_range h, List.getElem?_eq_getElem h2]
  simp only [Option.map_some, sB, h, dite_true]
  rfl
 ·
  have h2 : ¬ i < s.data.toList.length := by rw [Array.length_toList]; exact h
  rw [List.getElem?_eq_none (by simpa using h), List.getElem?_eq_none (by omega)]; rfl
theorem bytes_app (a b : ByteArray) : bytesOf (a ++ b) = bytesOf a ++ bytesOf b := by
 rw [bytes_eq, bytes_eq, bytes_eq, ByteArray.data_append, Array.toList_append, List.map_append]
theorem run_ascii : ∀ (bs : List Nat) {q : Ust}, q.w = 0 → (∀ b ∈ bs, b < 128) → (runM q bs).1 = bs.map (fun b : Nat => (b : Int)) ∧ (runM q bs).2.w = 0 := by
 intro bs
 induction bs with
 | nil => intro q h _; exact ⟨rfl, h⟩
 | cons b bs ih =>
  intro q h hb
  have e : putM q b = ([(b : Int)], ⟨0, q.m, q.r, 128, 191⟩) := by
   unfold putM begM; rw [if_pos h, if_pos (hb b (by simp))]
  have i := ih (q := ⟨0, q.m, q.r, 128, 191⟩) rfl fun x hx => hb x (by simp [hx])
  simp only [runM, e, List.map_cons, i.1, i.2, List.singleton_append, and_self]
theorem all_ascii {bs : List Nat} (h : ∀ b ∈ bs, b < 128) : allM bs = bs.map (fun b : Nat => (b : Int)) := by
 have r := run_ascii bs (q := ⟨0, 0, 0, 0, 0⟩) rfl h
 unfold allM endM
 rw [r.1, if_pos r.2, List.append_nil]
theorem valid_ascii {s : ByteArray} (h : ∀ b ∈ bytesOf s, b < 128) : Lib.validD s.data.toList = true := by
 rw [bytes_eq] at h
 rw [Lib.validD_ascii s.data.toList.length s.data.toList (fun b hb => h b.toNat (List.mem_map.2 ⟨b, List.mem_of_mem_take hb, rfl⟩))]
 rw [List.drop_length]; rfl
theorem parse_plain {s : ByteArray} {l : List Int} {N : Nd} (hs : s.size ≤ 60) (hb : ∀ b ∈ bytesOf s, b < 128) (hl : (bytesOf s).map (fun b : Nat => (b : Int)) = l) (h : altF (l.length + 1) l false = (N, [], false)) : parseM s = some N := by
 have hall : allM (bytesOf s) = l := by rw [all_ascii hb, hl]
 unfold parseM
 rw [hall, if_neg, if_neg]
 · rw [h]
 · rw [h]; simp
 ·
  rintro (a | a | a)
  · omega
  · rw [valid_ascii hb] at a; cases a
  ·
   rw [← hl] at a
   obtain ⟨b, h1, h2⟩ := List.mem_map.1 a
   have := hb b h1
   omega
theorem alt_one {f : Nat} {n : Nd} {s t : List Int} (hp : pieceF f s false = (n, t, false)) (hs : 0 ≤ nx s ∧ ¬ nx s = 124 ∧ ¬ nx s = 41) (ht : nx t < 0 ∨ nx t = 41) : altF (f + 1) s false = (n, t, false) := by
 have h1 := nx_len hs.1
 obtain ⟨g, hg⟩ : ∃ g, s.length = g + 1 := ⟨s.length - 1, by omega⟩
 have e1 : rowL (pieceF f) s.length [] s false = ([n], t, false) := by
  rw [hg, rowL, if_pos ⟨rfl, hs⟩, hp]
  exact rowL_stop (by rintro ⟨_, a, b, c⟩; dsimp only at a b c; omega)
 have hr : rowM (pieceF f) s false = (n, t, false) := by
  unfold rowM; rw [e1]; rfl
 have e2 : altL (rowM (pieceF f)) s.length [n] t false = ([n], t, false) := altL_stop (by rintro ⟨_, h⟩; omega)
 show altM (rowM (pieceF f)) s false = _
 unfold altM
 rw [hr]
 dsimp only
 rw [e2]; rfl
def tW : List Nat → ByteArray
 | [] => ⟨#[120]⟩
 | k :: rs => ((((⟨#[40]⟩ : ByteArray) ++ tW rs) ++ (⟨#[41, 123]⟩ : ByteArray)) ++ numT k) ++ (⟨#[125]⟩ : ByteArray)
def nW : List Nat → Nd
 | [] => litN 120
 | k :: rs => .mk 5 [] false [nW rs] k k
def vW : List Nat → Nat
 | [] => 1
 | k :: rs => vW rs * k + 1
def sW : List Nat → List Int
 | [] => [120]
 | k :: rs => 40 :: (sW rs ++ [41, 123, ((48 + k : Nat) : Int), 125])
theorem sW_nx (rs : List Nat) (t : List Int) : nx (sW rs ++ t) = 120 ∨ nx (sW rs ++ t) = 40 := by
 cases rs with
 | nil => exact .inl rfl
 | cons k rs => exact .inr rfl
theorem rep_no {t : List Int} (h : ¬ nx t = 42 ∧ ¬ nx t = 43 ∧ ¬ nx t = 63 ∧ ¬ nx t = 123) : repM t false = ((0, 0, false), t, false) := by
 unfold repM; rw [if_neg h.1, if_neg h.2.1, if_neg h.2.2.1, if_neg h.2.2.2]
theorem rep_num {k : Nat} (hk : k < 10) (t : List Int) : repM (123 :: ((48 + k : Nat) : Int) :: 125 :: t) false = (((k : Int), (k : Int), true), t, false) := by
 have hd : digM (((48 + k : Nat) : Int) :: 125 :: t) false = ((k : Int), 125 :: t, false) := by
  have ht : tkM (((48 + k : Nat) : Int) :: 125 :: t) false = (((48 + k : Nat) : Int), 125 :: t, false) := by
   unfold tkM; rw [if_neg (by show ¬ ((48 + k : Nat) : Int) < 0; omega)]; rfl
  unfold digM; rw [ht, if_neg (by dsimp only; omega)]
  dsimp only
  rw [show ((48 + k : Nat) : Int) - 48 = (k : Int) by omega]
 unfold repM
 have h1 : ¬ nx (123 :: ((48 + k : Nat) : Int) :: 125 :: t) = 42 := (by decide : ¬ (123 : Int) = 42)
 have h2 : ¬ nx (123 :: ((48 + k : Nat) : Int) :: 125 :: t) = 43 := (by decide : ¬ (123 : Int) = 43)
 have h3 : ¬ nx (123 :: ((48 + k : Nat) : Int) :: 125 :: t) = 63 := (by decide : ¬ (123 : Int) = 63)
 rw [if_neg h1, if_neg h2, if_neg h3, if_pos (show nx (123 :: ((48 + k : Nat) : Int) :: 125 :: t) = 123 from rfl)]
 show (((digM (((48 + k : Nat) : Int) :: 125 :: t) false).1, _, true), _) = _
 rw [show (123 :: ((48 + k : Nat) : Int) :: 125 :: t : List Int).tail = ((48 + k : Nat) : Int) :: 125 :: t from rfl, hd]
 have hm : mostM (k : Int) (125 :: t) false = ((k : Int), 125 :: t, false) := by
  unfold mostM; rw [if_neg (show ¬ nx (125 :: t) = 44 from (by decide : ¬ (125 : Int) = 44))]
 rw [hm]; rfl
theorem piece_w : ∀ (rs : List Nat) {f : Nat} {t : List Int}, rs.length ≤ f → (∀ k ∈ rs, k < 10) → (¬ nx t = 42 ∧ ¬ nx t = 43 ∧ ¬ nx t = 63 ∧ ¬ nx t = 123) → pieceF f (sW rs ++ t) false = (nW rs, t, false) := by
 intro rs
 induction rs with
 | nil =>
  intro f t _ _ ht
  have ha : atomF f (120 :: t) false = (litN 120, t, false) := rfl
  show pieceM (atomF f) (120 :: t) false = _
  unfold pieceM
  rw [ha]; dsimp only; rw [rep_no ht]; rfl
 | cons k rs ih =>
  intro f t hf hk ht
  obtain ⟨g, rfl⟩ : ∃ g, f = g + 1 := ⟨f - 1, by simp only [List.length_cons] at hf; omega⟩
  have hs : sW (k :: rs) ++ t = 40 :: (sW rs ++ (41 :: 123 :: ((48 + k : Nat) : Int) :: 125 :: t)) := by simp [sW]
  have hp := ih (f := g) (t := 41 :: 123 :: ((48 + k : Nat) : Int) :: 125 :: t) (by simp only [List.length_cons] at hf; omega) (fun x hx => hk x (by simp [hx])) (show ¬ (41 : Int) = 42 ∧ ¬ (41 : Int) = 43 ∧ ¬ (41 : Int) = 63 ∧ ¬ (41 : Int) = 123 by decide)
  have hn := sW_nx rs (41 :: 123 :: ((48 + k : Nat) : Int) :: 125 :: t)
  have hA := alt_one hp (by omega) (.inr rfl)
  have ha : atomF (g + 1) (40 :: (sW rs ++ (41 :: 123 :: ((48 + k : Nat) : Int) :: 125 :: t))) false = (nW rs, 123 :: ((48 + k : Nat) : Int) :: 125 :: t, false) := by
   show atomM (altF (g + 1)) _ _ = _
   unfold atomM
   rw [show tkM (40 :: (sW rs ++ (41 :: 123 :: ((48 + k : Nat) : Int) :: 125 :: t))) false = (40, sW rs ++ (41 :: 123 :: ((48 + k : Nat) : Int) :: 125 :: t), false) from rfl]
   dsimp only
   rw [if_pos rfl, hA]; rfl
  rw [hs]
  show pieceM (atomF (g + 1)) _ false = _
  unfold pieceM
  rw [ha]; dsimp only; rw [rep_num (hk k (by simp)) t]; rfl
theorem bytes_lit (xs : Array UInt8) : bytesOf ⟨xs⟩ = xs.toList.map (·.toNat) := bytes_eq _
theorem bytes_num {k : Nat} (hk : k < 10) : bytesOf (numT k) = [48 + k] := by
 rcases (by omega : k = 0 ∨ k = 1 ∨ k = 2 ∨ k = 3 ∨ k = 4 ∨ k = 5 ∨ k = 6 ∨ k = 7 ∨ k = 8 ∨ k = 9) with rfl | rfl | rfl | rfl | rfl | rfl | rfl | rfl | rfl | rfl <;> rfl
theorem tW_bytes : ∀ (rs : List Nat), (∀ k ∈ rs, k < 10) → (∀ b ∈ bytesOf (tW rs), b < 128) ∧ (bytesOf (tW rs)).map (fun b : Nat => (b : Int)) = sW rs := by
 intro rs
 induction rs with
 | nil => intro _; exact ⟨fun b hb => by simp [tW, bytes_lit] at hb; omega, rfl⟩
 | cons k rs ih =>
  intro h
  have i := ih fun x hx => h x (by simp [hx])
  have hk := h k (by simp)
  rw [tW, bytes_app, bytes_app, bytes_app, bytes_app, bytes_lit #[40], bytes_lit #[41, 123], bytes_lit #[125], bytes_num hk]
  constructor
  ·
   intro b hb
   simp only [List.mem_append] at hb
   rcases hb with (((hb | hb) | hb) | hb) | hb
   · simp at hb; omega
   · exact i.1 b hb
   · simp at hb; omega
   · simp at hb; omega
   · simp at hb; omega
  · simp only [List.map_append, i.2, sW]; simp
theorem lit1 : (⟨#[40]⟩ : ByteArray).size = 1 := rfl
theorem lit2 : (⟨#[41, 123]⟩ : ByteArray).size = 2 := rfl
theorem lit3 : (⟨#[125]⟩ : ByteArray).size = 1 := rfl
theorem tW_size : ∀ (rs : List Nat), (tW rs).size = 1 + 5 * rs.length := by
 intro rs
 induction rs with
 | nil => rfl
 | cons k rs ih =>
  rw [tW]; simp only [ByteArray.size_append, numT_size, ih, List.length_cons]
  show 1 + _ + 2 + 1 + 1 = _
  omega
theorem parse_w {rs : List Nat} (h : rs.length ≤ 4) (hk : ∀ k ∈ rs, k < 10) : parseM (tW rs) = some (nW rs) := by
 have b := tW_bytes rs hk
 refine parse_plain (by rw [tW_size]; omega) b.1 b.2 ?_
 have hl : rs.length ≤ (sW rs).length := by
  rw [← b.2, List.length_map]; simp only [bytesOf, List.length_map, List.length_range, tW_size]; omega
 have hp := piece_w rs (f := (sW rs).length) (t := []) hl hk (by decide)
 rw [List.append_nil] at hp
 have hn := sW_nx rs []
 rw [List.append_nil] at hn
 exact alt_one hp (by omega) (.inl (by decide))
theorem vW_le : ∀ (rs : List Nat), (∀ k ∈ rs, k < 10) → 1 ≤ vW rs ∧ vW rs ≤ 10 ^ rs.length := by
 intro rs
 induction rs with
 | nil => intro _; exact ⟨Nat.le_refl _, Nat.le_refl _⟩
 | cons k rs ih =>
  intro h
  have i := ih fun x hx => h x (by simp [hx])
  have hk := h k (by simp)
  rw [vW, List.length_cons, Nat.pow_succ]
  have : vW rs * k ≤ vW rs * 9 := Nat.mul_le_mul_left _ (by omega)
  omega
theorem vW_10 {rs : List Nat} (h : rs.length ≤ 4) (hk : ∀ k ∈ rs, k < 10) : vW rs ≤ 10000 :=
 Nat.le_trans (vW_le rs hk).2 (Nat.pow_le_pow_right (by decide) h)
theorem nW_w : ∀ (rs : List Nat), rs.length ≤ 4 → (∀ k ∈ rs, k < 10) → wr K14 1000000 (nW rs) = vW rs ∧ deep (nW rs) = rs.length + 1 := by
 intro rs
 induction rs with
 | nil => intro _ _; exact ⟨by decide, by decide⟩
 | cons k rs ih =>
  intro hl h
  have h' : ∀ x ∈ rs, x < 10 := fun x hx => h x (by simp [hx])
  simp only [List.length_cons] at hl
  have i := ih (by omega) h'
  have b := vW_10 (rs := rs) (by omega) h'
  have b2 := vW_10 (rs := k :: rs) (by simp; omega) h
  rw [vW] at b2
  constructor
  ·
   rw [nW, wr_mk]
   rw [if_neg (show ¬ (5 : Int) = K14.cat by decide), if_neg (show ¬ (5 : Int) = K14.alt by decide), if_pos (show (5 : Int) = K14.rep from rfl), if_neg (by omega), Int.toNat_natCast, wrL, wrL_nil, i.1, Nat.zero_add, Nat.min_eq_left (show vW rs ≤ 1000000 by omega), Nat.min_eq_left (by omega), vW]
  · rw [nW, deep, deepL, deepL, i.2, List.length_cons]; omega
theorem w_small {rs : List Nat} {N : Nd} (h : rs.length ≤ 4) (hk : ∀ k ∈ rs, k < 10) (hN : nW rs = N) (h3 : size N ≤ 241) (hl : allLoc locB N) : wr K14 1000000 N = vW rs ∧ wp K14 20001 N = vW rs ∧ Nfa.cnt locB N 1 ≤ 2000 ∧ wp K14 20001 N ≤ 20000 := by
 subst hN
 have w := nW_w rs h hk
 have b := vW_10 h hk
 have hw : wp K14 20001 (nW rs) ≤ 20000 := by
  by_cases e : wp K14 20001 (nW rs) ≤ 20000
  · exact e
  · have := wr_big e; omega
 have := wr_small hw
 exact ⟨w.1, by omega, cnt_of (by omega) h3 hl, hw⟩
end
end Go.Vai

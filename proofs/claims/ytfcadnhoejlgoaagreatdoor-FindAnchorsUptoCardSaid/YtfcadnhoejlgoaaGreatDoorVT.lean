/-
  What is proved here: the two tables of unicode/utf8 are kept beside the objects that a call is given (part VT of claims whose program reads them: objects 0 and 1). No conditions.
-/
import Derived.Test.YtfcadnhoejlgoaaGreatDoorVA
import Derived.Lib.DecodeN
set_option linter.unusedVariables false
set_option linter.unusedSimpArgs false
namespace Go.Vai
def TG (k : Nat) : Prop := k = 0 ∨ k = 1
def TW (w : World) : Prop :=
 (∀ c, c < 256 → w.cell? ⟨0, c, none⟩ = some (.int .u8 (Lib.firstT c))) ∧
 (∀ i, i < 16 → w.cell? ⟨1, 2 * i, none⟩ = some (.int .u8 (Lib.accLo i)) ∧ w.cell? ⟨1, 2 * i + 1, none⟩ = some (.int .u8 (Lib.accHi i)))
theorem cells_of {w : World} {a : Addr} {v : Value} (h : w.cell? a = some v) : ∃ c t f, w.heap[a.block]? = some (.cells c t f) := by
 unfold World.cell? at h
 split at h
 · rename_i c t f e; exact ⟨c, t, f, e⟩
 · cases h
theorem TW.at {w : World} (h : TW w) {k : Nat} (hk : TG k) : ∃ c t f, w.heap[k]? = some (.cells c t f) := by
 rcases hk with rfl | rfl
 · exact cells_of (h.1 0 (by decide))
 · exact cells_of (h.2 0 (by decide)).1
theorem TW.lt {w : World} (h : TW w) {k : Nat} (hk : TG k) : k < w.heap.size := by
 obtain ⟨c, t, f, e⟩ := h.at hk
 exact (Array.getElem?_eq_some_iff.1 e).1
theorem TW.go {w w' : World} (h : TW w) (hk : ∀ k, TG k → w'.heap[k]? = w.heap[k]?) : TW w' := by
 have e : ∀ a : Addr, TG a.block → w'.cell? a = w.cell? a := fun a ha => by unfold World.cell?; rw [hk _ ha]
 exact ⟨fun c hc => by rw [e _ (.inl rfl)]; exact h.1 c hc, fun i hi => ⟨by rw [e _ (.inr rfl)]; exact (h.2 i hi).1, by rw [e _ (.inr rfl)]; exact (h.2 i hi).2⟩⟩
end Go.Vai

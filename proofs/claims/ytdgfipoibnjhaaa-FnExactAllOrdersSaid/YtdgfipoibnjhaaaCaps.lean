/-
  A copy of a history has room for its operations.
-/
import Derived.Test.YtdgfipoibnjhaaaTxns
namespace Go.Proofs.Ytdgfipoibnjhaaa
set_option linter.unusedSimpArgs false
set_option linter.unusedVariables false
set_option maxRecDepth 100000
open Go.RowKit

/-- no slice of operations is longer than its room -/
def Caps (w : World) (A : Option Addr) (m : Nat) : Prop := ∀ b off, A = some ⟨b, off, none⟩ → b < w.heap.size ∧ ∀ i, i < m → ∀ A' n c, w.cell? ⟨b, off + i * 3 + 1, none⟩ = some (.slice A' n c) → n ≤ c
theorem Caps.ext {w w' : World} {A : Option Addr} {m : Nat} (h : Caps w A m) (hE : Ext w w') : Caps w' A m := fun b off e => by
  obtain ⟨h1, h2⟩ := h b off e
  refine ⟨Nat.lt_of_lt_of_le h1 hE.size, fun i hi A' n c hc => h2 i hi A' n c ?_⟩
  rw [← hc]
  exact (World.cell?_of_block (a := ⟨b, off + i * 3 + 1, none⟩) (hE.block b h1)).symm
/-- .. among the cells of a block -/
def CapC (cs : Array Value) (k : Nat) : Prop := ∀ i, i < k → ∀ A n c, cs[i * 3 + 1]? = some (.slice A n c) → n ≤ c
theorem CapC.step {cs : Array Value} {k : Nat} {s : Int} {A : Option Addr} {n : Nat} {d : Bool} (h : CapC cs k) (hs : k * 3 + 1 < cs.size) : CapC (((cs.setIfInBounds (k * 3) (.int .i64 s)).setIfInBounds (k * 3 + 1) (.slice A n n)).setIfInBounds (k * 3 + 2) (.bool d)) (k + 1) := by
  intro i hi A' n' c' hc
  rcases Nat.lt_or_ge i k with h1 | h1
  · rw [Array.getElem?_setIfInBounds_ne (by omega), Array.getElem?_setIfInBounds_ne (by omega), Array.getElem?_setIfInBounds_ne (by omega)] at hc
    exact h i h1 A' n' c' hc
  · obtain rfl : i = k := by omega
    rw [Array.getElem?_setIfInBounds_ne (by omega), Array.getElem?_setIfInBounds_self_of_lt (by (try simp); omega)] at hc
    cases hc
    exact Nat.le_refl _
theorem CapC.caps {w : World} {g : Nat} {t : TypeId} {cs : Array Value} {k : Nat} (h : CapC cs k) (hB : Blk w g t cs) : Caps w (some ⟨g, 0, none⟩) k := fun b off e => by
  cases e
  exact ⟨hB.lt, fun i hi A n c hc => h i hi A n c (by rw [← hc, Nat.zero_add]; exact (hB.cell _).symm)⟩
end Go.Proofs.Ytdgfipoibnjhaaa

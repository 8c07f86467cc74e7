/-
  A history of the call's own has room for its operations.
-/
import Derived.Test.YtdgfipoibnjhaaaDoorTxns
import Derived.Test.YtdgfipoibnjhaaaDoorDrawHi
/-
  A copy of a history has room for its operations.
-/
namespace Go.Proofs.YtdgfipoibnjhaaaDoor
set_option linter.unusedSimpArgs false
set_option linter.unusedVariables false
set_option maxRecDepth 100000
open Go.RowKit

/-- no slice of operations is longer than its room -/
def Caps (w : World) (A : Option Addr) (m : Nat) : Prop := ∀ b off, A = some ⟨b, off, none⟩ → b < w.heap.size ∧ ∀ i, i < m → ∀ A' n c, w.cell? ⟨b, off + i * 3 + 1, none⟩ = some (.slice A' n c) → n ≤ c
theorem Caps.ext {w w' : World} {A : Option Addr} {m : Nat} (h : Caps w A m) (hE : Ext w w') : Caps w' A m := fun b off e => by
  obtain ⟨h1, h2⟩ := h b off e
  refine ⟨Nat.lt_of_lt_of_le h1 hE.size, fun i hi A' n c hc => h2 i hi A' n c ?_⟩
  rw [← hc]
  exact (World.cell?_of_block (a := ⟨b, off + i * 3 + 1, none⟩) (hE.block b h1)).symm
/-- .. among the cells of a block -/
def CapC (cs : Array Value) (k : Nat) : Prop := ∀ i, i < k → ∀ A n c, cs[i * 3 + 1]? = some (.slice A n c) → n ≤ c
theorem CapC.step {cs : Array Value} {k : Nat} {s : Int} {A : Option Addr} {n : Nat} {d : Bool} (h : CapC cs k) (hs : k * 3 + 1 < cs.size) : CapC (((cs.setIfInBounds (k * 3) (.int .i64 s)).setIfInBounds (k * 3 + 1) (.slice A n n)).setIfInBounds (k * 3 + 2) (.bool d)) (k + 1) := by
  intro i hi A' n' c' hc
  rcases Nat.lt_or_ge i k with h1 | h1
  · rw [Array.getElem?_setIfInBounds_ne (by omega), Array.getElem?_setIfInBounds_ne (by omega), Array.getElem?_setIfInBounds_ne (by omega)] at hc
    exact h i h1 A' n' c' hc
  · obtain rfl : i = k := by omega
    rw [Array.getElem?_setIfInBounds_ne (by omega), Array.getElem?_setIfInBounds_self_of_lt (by (try simp); omega)] at hc
    cases hc
    exact Nat.le_refl _
theorem CapC.caps {w : World} {g : Nat} {t : TypeId} {cs : Array Value} {k : Nat} (h : CapC cs k) (hB : Blk w g t cs) : Caps w (some ⟨g, 0, none⟩) k := fun b off e => by
  cases e
  exact ⟨hB.lt, fun i hi A n c hc => h i hi A n c (by rw [← hc, Nat.zero_add]; exact (hB.cell _).symm)⟩
end Go.Proofs.YtdgfipoibnjhaaaDoor
namespace Go.Proofs.YtdgfipoibnjhaaaDoor
set_option linter.unusedSimpArgs false
set_option linter.unusedVariables false
set_option maxRecDepth 100000
open Go.RowKit

/-- a history of the call's own has room for its operations -/
theorem OwnT.caps {w : World} {B lim : Nat} {A : Option Addr} {n c : Nat} {ps : List PT} (h : OwnT w B lim (.slice A n c) ps) : Caps w A ps.length := fun b off e => by
  obtain ⟨h1, h2⟩ := h
  subst e
  rcases h1.2 with ⟨hv, _⟩ | ⟨g, cap, cur, hv, hb, hg, hle, hm, hs, ht⟩
  · cases hv
  · cases hv
    refine ⟨(Array.getElem?_eq_some_iff.1 hg).1, fun i hi A' n' c' hc => ?_⟩
    obtain ⟨p, hp⟩ : ∃ p, ps[i]? = some p := ⟨_, List.getElem?_eq_getElem hi⟩
    have hcell := cell_of_row w b (i * 3 + 1) cur 32 (0, 0) hg
    rw [Nat.zero_add, hcell] at hc
    have hfl : (flatP ps)[i * 3 + 1]? = some (.slice p.A p.ops.length p.c) := flatP_at ps i p hp 1 _ rfl
    have hlt : i * 3 + 1 < ps.length * 3 := by omega
    have h3 : cur[i * 3 + 1]? = some (.slice p.A p.ops.length p.c) := by
      rw [← hfl, ← ht, List.getElem?_take, if_pos hlt]
      simp
    rw [h3] at hc
    cases hc
    exact (h2 p (List.mem_of_getElem? hp)).1.slCap
theorem caps_pick {B r : Nat} {W W' : World} {A : Option Addr} {h : List TxnT} (hx : Txns (fun b => B ≤ b) W A h) (hc : Caps W A h.length) (hG : W.grownBy W' (some r)) (hr : r < B) : Caps W' A h.length := fun b off e => by
  obtain ⟨h1, h2⟩ := hc b off e
  refine ⟨Nat.lt_of_lt_of_le h1 hG.size, fun i hi A' n c hcell => h2 i hi A' n c ?_⟩
  obtain ⟨b', off', us, e', hB, hlt, _⟩ := hx i _ (List.getElem?_eq_getElem hi)
  rw [e] at e'
  cases e'
  rw [← hcell]
  exact (World.cell?_of_block (hG.block b hlt (fun e => by have := Option.some.inj e; omega))).symm
end Go.Proofs.YtdgfipoibnjhaaaDoor

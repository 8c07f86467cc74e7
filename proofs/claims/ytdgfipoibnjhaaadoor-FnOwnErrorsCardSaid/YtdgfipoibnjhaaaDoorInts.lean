/-
  Contracts of the laws' helpers on lists of ints: comparison and marks.
-/
import Derived.Test.YtdgfipoibnjhaaaDoorMark
namespace Go.Proofs.YtdgfipoibnjhaaaDoor
set_option linter.unusedSimpArgs false
set_option linter.unusedVariables false
set_option maxRecDepth 100000
open Go.RowKit

def marks1 (k : Int) (n : Nat) : List Int := (List.range n).map fun i : Nat => k + (i : Int)
theorem marks1_len (k : Int) (n : Nat) : (marks1 k n).length = n := by simp [marks1]
theorem marks1_at {k : Int} {n i : Nat} (h : i < n) : (marks1 k n)[i]? = some (k + i) := by simp [marks1, h]
theorem marks1_step {k : Int} {j : Nat} {xs : List Int} (h : j < xs.length) : (marks1 k j ++ xs.drop j).set j (k + j) = marks1 k (j + 1) ++ xs.drop (j + 1) := by
  apply List.ext_getElem?
  intro i
  rw [List.getElem?_set, List.length_append, marks1_len, List.length_drop]
  rcases Nat.lt_trichotomy i j with h1 | h1 | h1
  · rw [if_neg (by omega), List.getElem?_append_left (by rw [marks1_len]; omega), List.getElem?_append_left (by rw [marks1_len]; omega), marks1_at h1, marks1_at (by omega)]
  · subst h1
    rw [if_pos rfl, if_pos (by omega), List.getElem?_append_left (by rw [marks1_len]; omega), marks1_at (by omega)]
  · rw [if_neg (by omega), List.getElem?_append_right (by rw [marks1_len]; omega), List.getElem?_append_right (by rw [marks1_len]; omega), marks1_len, marks1_len, List.getElem?_drop, List.getElem?_drop]
    congr 1
    omega

section
variable {S : Nat → Prop} {w w' : World} {A : Option Addr} {xs : List Int} {b off i : Nat}
theorem Ints.grown {row : Option Nat} (h : Ints S w A xs) (hg : w.grownBy w' row) (hS : ∀ b, S b → b < w.heap.size → some b ≠ row) : Ints S w' A xs :=
  SlAt.keep h (kept_int _ _) hg.size (fun p hp hlt => World.cell?_of_block (hg.block p.block hlt (hS _ hp hlt)))
theorem Ints.set1 (h : Ints S w (some ⟨b, off, none⟩) xs) (hi : i < xs.length) (x : Int) : Ints S (w.setCell ⟨b, off + i, none⟩ (.int .i64 x)) (some ⟨b, off, none⟩) (xs.set i x) := by
  obtain ⟨y0, b', off', _, e, hS, hb, c0⟩ := h.at_ hi
  cases e
  have hz : (w.setCell ⟨b, off + i, none⟩ (.int .i64 x)).heap.size = w.heap.size := by simp [World.setCell]
  intro j y hx
  rw [List.getElem?_set] at hx
  by_cases hj : i = j
  · subst hj
    rw [if_pos rfl, if_pos hi] at hx
    cases hx
    refine ⟨b, off, _, rfl, hS, by rw [hz]; exact hb, rfl, rfl, fun q u hu => ?_⟩
    match q, hu with
    | 0, hu => cases hu; go_simp
    | q + 1, hu => simp at hu
  · rw [if_neg hj] at hx
    obtain ⟨b', off', us, e, _, _, hl, hr, hc⟩ := h j y hx
    cases e
    refine ⟨b, off, us, rfl, hS, by rw [hz]; exact hb, hl, hr, fun q u hu => ?_⟩
    have hq : q < 1 := by have := (List.getElem?_eq_some_iff.1 hu).1; omega
    rw [World.cell?_setCell_other _ _ _ _ (by first | (simp; done) | (simp; omega))]
    exact hc q u hu
end

/-- what a mark of ints leaves -/
def Marked1 (S : Nat → Prop) (A : Option Addr) (k : Int) (n : Nat) (w : World) (e : Ending) (w' : World) : Prop :=
  e = .returned (.int .i64 (k + n)) ∧ Ints S w' A (marks1 k n) ∧ w.grownBy w' (rowOf A) ∧ ∀ a, A = some a → ∀ o, w'.frozen? ⟨a.block, o, none⟩ = false


end Go.Proofs.YtdgfipoibnjhaaaDoor

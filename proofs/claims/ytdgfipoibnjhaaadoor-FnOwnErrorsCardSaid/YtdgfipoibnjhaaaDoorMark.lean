/-
  Contracts of the laws' marks: what was written stands, and nothing else has turned.
-/
import Derived.Test.YtdgfipoibnjhaaaDoorOwn
namespace Go.Proofs.YtdgfipoibnjhaaaDoor
set_option linter.unusedSimpArgs false
set_option linter.unusedVariables false
set_option maxRecDepth 100000
open Go.RowKit

def marks3 (k : Int) (n : Nat) : List T3 := (List.range n).map fun i : Nat => ⟨k + 3 * (i : Int), k + 3 * (i : Int) + 1, k + 3 * (i : Int) + 1 + 1⟩
theorem marks3_len (k : Int) (n : Nat) : (marks3 k n).length = n := by simp [marks3]
theorem marks3_at {k : Int} {n i : Nat} (h : i < n) : (marks3 k n)[i]? = some ⟨k + 3 * i, k + 3 * i + 1, k + 3 * i + 1 + 1⟩ := by simp [marks3, h]
theorem marks3_step {k : Int} {j : Nat} {xs : List T3} (h : j < xs.length) :
    (marks3 k j ++ xs.drop j).set j ⟨k + 3 * j, k + 3 * j + 1, k + 3 * j + 1 + 1⟩ = marks3 k (j + 1) ++ xs.drop (j + 1) := by
  apply List.ext_getElem?
  intro i
  rw [List.getElem?_set, List.length_append, marks3_len, List.length_drop]
  rcases Nat.lt_trichotomy i j with h1 | h1 | h1
  · rw [if_neg (by omega), List.getElem?_append_left (by rw [marks3_len]; omega), List.getElem?_append_left (by rw [marks3_len]; omega), marks3_at h1, marks3_at (by omega)]
  · subst h1
    rw [if_pos rfl, if_pos (by omega), List.getElem?_append_left (by rw [marks3_len]; omega), marks3_at (by omega)]
  · rw [if_neg (by omega), List.getElem?_append_right (by rw [marks3_len]; omega), List.getElem?_append_right (by rw [marks3_len]; omega), marks3_len, marks3_len, List.getElem?_drop, List.getElem?_drop]
    congr 1
    omega

section
variable {S : Nat → Prop} {w w' : World} {A : Option Addr} {xs : List T3} {b off i : Nat}
theorem Ops.grown {row : Option Nat} (h : Ops S w A xs) (hg : w.grownBy w' row) (hS : ∀ b, S b → b < w.heap.size → some b ≠ row) : Ops S w' A xs :=
  SlAt.keep h (kept_3 _ _) hg.size (fun p hp hlt => World.cell?_of_block (hg.block p.block hlt (hS _ hp hlt)))
theorem grown_trans {a b c : World} {row : Option Nat} (h : a.grownBy b row) (k : b.grownBy c row) : a.grownBy c row :=
  ⟨k.os.trans h.os, k.tape.trans h.tape, k.output.trans h.output, Nat.le_trans h.size k.size, fun i hi hne => (k.block i (Nat.lt_of_lt_of_le hi h.size) hne).trans (h.block i hi hne)⟩
theorem grown_set {a : World} {g o : Nat} (u : Value) : a.grownBy (a.setCell ⟨g, o, none⟩ u) (some g) :=
  ⟨rfl, rfl, rfl, by simp [World.setCell], fun _ _ hne => Below.heap_setCell a ⟨g, o, none⟩ u _ (fun e => hne (by rw [e]))⟩
theorem grown_refl (a : World) (row : Option Nat) : a.grownBy a row := ⟨rfl, rfl, rfl, Nat.le_refl _, fun _ _ _ => rfl⟩
theorem grown_ext {a b : World} (h : Ext a b) (row : Option Nat) : a.grownBy b row := ⟨h.os, h.tape, h.output, h.size, fun k hk _ => h.block k hk⟩
theorem Below.grown' {B : Nat} {a b c : World} {row : Option Nat} (h : Below B a b) (hg : b.grownBy c row) (hB : B ≤ b.heap.size) (hr : ∀ k, row = some k → B ≤ k) : Below B a c := h.grown hg hB hr

theorem Ops.set3 (h : Ops S w (some ⟨b, off, none⟩) xs) (hi : i < xs.length) (x0 x1 x2 : Int) :
    Ops S (((w.setCell ⟨b, off + i * 3, none⟩ (.int .i64 x0)).setCell ⟨b, off + i * 3 + 1, none⟩ (.int .i64 x1)).setCell ⟨b, off + i * 3 + 2, none⟩ (.int .i64 x2)) (some ⟨b, off, none⟩) (xs.set i ⟨x0, x1, x2⟩) := by
  obtain ⟨y0, y1, y2, b', off', _, e, hS, hb, c0, c1, c2⟩ := h.at_ hi
  cases e
  have hz : (((w.setCell ⟨b, off + i * 3, none⟩ (.int .i64 x0)).setCell ⟨b, off + i * 3 + 1, none⟩ (.int .i64 x1)).setCell ⟨b, off + i * 3 + 2, none⟩ (.int .i64 x2)).heap.size = w.heap.size := by simp [World.setCell]
  intro j x hx
  rw [List.getElem?_set] at hx
  by_cases hj : i = j
  · subst hj
    rw [if_pos rfl, if_pos hi] at hx
    cases hx
    refine ⟨b, off, _, rfl, hS, by rw [hz]; exact hb, rfl, rfl, fun q u hu => ?_⟩
    match q, hu with
    | 0, hu => cases hu; go_simp
    | 1, hu => cases hu; go_simp
    | 2, hu => cases hu; go_simp
    | q + 3, hu => simp at hu
  · rw [if_neg hj] at hx
    obtain ⟨b', off', us, e, _, _, hl, hr, hc⟩ := h j x hx
    cases e
    refine ⟨b, off, us, rfl, hS, by rw [hz]; exact hb, hl, hr, fun q u hu => ?_⟩
    have hq : q < 3 := by have := (List.getElem?_eq_some_iff.1 hu).1; omega
    rw [World.cell?_setCell_other _ _ _ _ (by first | (simp; done) | (simp; omega)), World.cell?_setCell_other _ _ _ _ (by first | (simp; done) | (simp; omega)), World.cell?_setCell_other _ _ _ _ (by first | (simp; done) | (simp; omega))]
    exact hc q u hu
end

def rowOf (A : Option Addr) : Option Nat := A.map (·.block)
/-- what a mark leaves -/
def Marked (S : Nat → Prop) (A : Option Addr) (k : Int) (n : Nat) (w : World) (e : Ending) (w' : World) : Prop :=
  e = .returned (.int .i64 (k + 3 * n)) ∧ Ops S w' A (marks3 k n) ∧ w.grownBy w' (rowOf A) ∧ ∀ a, A = some a → ∀ o, w'.frozen? ⟨a.block, o, none⟩ = false


end Go.Proofs.YtdgfipoibnjhaaaDoor

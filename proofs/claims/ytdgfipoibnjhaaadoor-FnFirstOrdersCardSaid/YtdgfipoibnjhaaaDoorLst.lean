/-
  Contracts of the laws' helpers on lists of lists of ints: comparison and marks; results of calls in memory of their own.
-/
import Derived.Test.YtdgfipoibnjhaaaDoorRes
namespace Go.Proofs.YtdgfipoibnjhaaaDoor
set_option linter.unusedSimpArgs false
set_option linter.unusedVariables false
set_option maxRecDepth 100000
open Go.RowKit

def tot (xs : List (List Int)) : Nat := (xs.map List.length).sum
theorem tot_take {xs : List (List Int)} {k : Nat} {x : List Int} (hk : xs[k]? = some x) : tot (xs.take (k + 1)) = tot (xs.take k) + x.length := by
  unfold tot
  rw [List.take_add_one, hk]
  simp
theorem tot_le (xs : List (List Int)) (k : Nat) : tot (xs.take k) ≤ tot xs := by
  have e : tot xs = tot (xs.take k) + tot (xs.drop k) := by
    unfold tot
    rw [← List.sum_append, ← List.map_append, List.take_append_drop]
  omega
/-- few rows, few numbers -/
def SmallR (xs : List (List Int)) : Prop := xs.length + tot xs ≤ 1048576
theorem SmallR.row {xs : List (List Int)} (h : SmallR xs) {k : Nat} {x : List Int} (hk : xs[k]? = some x) : x.length ≤ 1048576 := by
  have h1 := tot_take hk
  have h2 := tot_le xs (k + 1)
  unfold SmallR at h
  omega
theorem SmallR.len {xs : List (List Int)} (h : SmallR xs) : xs.length ≤ 1048576 := by unfold SmallR at h; omega

/-- rows that are a call's own, each in a block apart; f tells where -/
structure RI2 (lo : Nat) (w : World) (A : Option Addr) (xs : List (List Int)) (f : Nat → Option Addr) : Prop where
  row : ∀ i x, xs[i]? = some x → ∃ g off cap, A = some ⟨g, off, none⟩ ∧ lo ≤ g ∧ g < w.heap.size ∧ w.cell? ⟨g, off + i, none⟩ = some (.slice (f i) x.length cap) ∧ Ints (fun b => some b = rowOf (f i)) w (f i) x ∧
    ∀ a, f i = some a → lo ≤ a.block ∧ a.block < w.heap.size ∧ (∀ o, w.frozen? ⟨a.block, o, none⟩ = false) ∧ a.block ≠ g
  apart : ∀ i j a b, i < j → j < xs.length → f i = some a → f j = some b → a.block ≠ b.block
theorem RI2.ext {lo : Nat} {w w' : World} {A : Option Addr} {xs : List (List Int)} {f : Nat → Option Addr} (h : RI2 lo w A xs f) (hE : Ext w w') : RI2 lo w' A xs f := by
  refine ⟨fun i x hx => ?_, h.apart⟩
  obtain ⟨g, off, cap, rfl, h0, h1, h2, h3, h4⟩ := h.row i x hx
  refine ⟨g, off, cap, rfl, h0, Nat.lt_of_lt_of_le h1 hE.size, hE.keep h1 h2, h3.ext hE, fun a ha => ?_⟩
  obtain ⟨h5, h6, h7, h8⟩ := h4 a ha
  exact ⟨h5, Nat.lt_of_lt_of_le h6 hE.size, fun o => by rw [hE.frozen (p := ⟨a.block, o, none⟩) h6]; exact h7 o, h8⟩
theorem RI2.rows {lo : Nat} {w : World} {A : Option Addr} {xs : List (List Int)} {f : Nat → Option Addr} (h : RI2 lo w A xs f) : Rows2 Any w A xs := by
  intro i x hx
  obtain ⟨g, off, cap, rfl, h0, h1, h2, h3, h4⟩ := h.row i x hx
  refine ⟨g, off, _, rfl, trivial, h1, rfl, ⟨f i, cap, rfl, SlAt.mono h3 (fun _ _ _ => trivial) (fun _ _ h => h)⟩, fun j u hu => ?_⟩
  match j, hu with
  | 0, hu => cases hu; simpa using h2
  | j + 1, hu => simp at hu
/-- a call that hands back new rows -/
def FreshRR (xs : List (List Int)) (w : World) (e : Ending) (w' : World) : Prop := ∃ A c f, e = .returned (.slice A xs.length c) ∧ RI2 w.heap.size w' A xs f ∧ Ext w w'
/-- what is held behind a mark of rows -/
def HI2 (w : World) (A : Option Addr) (xs : List (List Int)) : Prop := ∀ i x, xs[i]? = some x → ∃ g off B cap, A = some ⟨g, off, none⟩ ∧ g < w.heap.size ∧ w.cell? ⟨g, off + i, none⟩ = some (.slice B x.length cap) ∧ Ints Any w B (marks1 (1 + (tot (xs.take i) : Nat)) x.length)
theorem HI2.ext {w w' : World} {A : Option Addr} {xs : List (List Int)} (h : HI2 w A xs) (hE : Ext w w') : HI2 w' A xs := fun i x hx => by
  obtain ⟨g, off, B, cap, rfl, h1, h2, h3⟩ := h i x hx
  exact ⟨g, off, B, cap, rfl, Nat.lt_of_lt_of_le h1 hE.size, hE.keep h1 h2, h3.ext hE⟩


/-- rows that are a call's own, in the words of the laws' walk -/
def RR (lo : Nat) (w : World) (A : Option Addr) (xs : List (List Int)) : Prop := Rows2 Any w A xs ∧ ∃ f, RI2 lo w A xs f
theorem RR.ext {lo : Nat} {w w' : World} {A : Option Addr} {xs : List (List Int)} (h : RR lo w A xs) (hE : Ext w w') : RR lo w' A xs := by
  obtain ⟨_, f, h⟩ := h
  exact ⟨(h.ext hE).rows, f, h.ext hE⟩
end Go.Proofs.YtdgfipoibnjhaaaDoor

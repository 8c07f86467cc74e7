/-
  Contracts of AnomaliesOf, the reference's and the program's.
-/
import Derived.Test.YtbglkjmoednapaaDoorAnom
namespace Go.Proofs.YtbglkjmoednapaaDoor
set_option linter.unusedSimpArgs false
set_option linter.unusedVariables false
set_option maxRecDepth 100000
open Go.RowKit

theorem Own1.cut {w : World} {base : Nat} {e : TypeId} {v : Value} {xs : List Int} (h : Own1 w base e v xs) : ∃ A c, v = .slice A xs.length c ∧ xs.length ≤ c ∧ c ≤ maxLen ∧ (A = none → xs.length = 0 ∧ c = 0) ∧ ∀ a, A = some a → ∃ g, a = ⟨g, 0, none⟩ := by
  rcases h.2 with ⟨rfl, hn⟩ | ⟨g, cap, cur, rfl, hb, hg, hle, hm, hs, ht⟩
  · exact ⟨none, 0, by rw [hn], by omega, by omega, fun _ => ⟨hn, rfl⟩, fun a ha => by cases ha⟩
  · exact ⟨_, cap, rfl, hle, hm, (fun h => by cases h), fun a ha => by cases ha; exact ⟨g, rfl⟩⟩

/-- the anomalies among the first k -/
def anoT (many : Int) (L : List T3) : Nat → List Int
  | 0 => []
  | k + 1 => if hasV many L ((k : Int) + 1) = true then anoT many L k ++ [(k : Int) + 1] else anoT many L k
def anoV (many : Int) (L : List T3) : List Int := anoT many L 4
theorem anoT_len (many : Int) (L : List T3) (k : Nat) : (anoT many L k).length ≤ k := by
  induction k with
  | zero => exact Nat.le_refl _
  | succ k ih =>
    unfold anoT
    split
    · rw [List.length_append, List.length_singleton]; omega
    · omega
theorem anoV_bad {many : Int} {L : List T3} (h : edgesValid many L = false) : anoV many L = [] := by
  have : ∀ k, anoT many L k = [] := by
    intro k
    induction k with
    | zero => rfl
    | succ k ih =>
      unfold anoT
      rw [if_neg (by unfold hasV; rw [h]; simp)]
      exact ih
  exact this 4


end Go.Proofs.YtbglkjmoednapaaDoor

/-
  Contracts of TopOrder, the reference's and the program's.
-/
import Derived.Test.YtmbdacfgmiielaaGreatMat
namespace Go.Proofs.YtmbdacfgmiielaaGreat
set_option linter.unusedSimpArgs false
set_option linter.unusedVariables false
set_option maxRecDepth 100000
open Go.RowKit

theorem edgesValid_iff {many : Int} {L : List T3} (h : edgesValid many L = true) : ∃ m : Nat, many = m ∧ m ≤ 6 ∧ L.length ≤ 144 ∧ ∀ e ∈ L, 0 ≤ e.a ∧ e.a < m ∧ 0 ≤ e.b ∧ e.b < m ∧ e.a ≠ e.b ∧ 1 ≤ e.c ∧ e.c ≤ 4 := by
  unfold edgesValid at h
  simp only [Bool.and_eq_true, List.all_eq_true, decide_eq_true_eq, inB_iff] at h
  obtain ⟨h1, ⟨h2, h3⟩, h4⟩ := h
  obtain ⟨m, rfl⟩ := Int.eq_ofNat_of_zero_le h2
  have hw : wrap64 ((m : Int) - 1) = (m : Int) - 1 := IntWalk.wrap64_in _ ⟨by omega, by omega⟩
  refine ⟨m, rfl, by omega, h4, fun e he => ?_⟩
  have := h1 e he
  unfold edv at this
  rw [hw] at this
  simp only [Bool.and_eq_true, inB_iff, Bool.not_eq_true', beq_eq_false_iff_ne] at this
  obtain ⟨⟨⟨a1, a2⟩, a3⟩, a4⟩ := this
  exact ⟨a1.1, by omega, a2.1, by omega, a3, a4.1, a4.2⟩

/-- the least one that may come next among those from m - t on, or -1 -/
def nx (p : Nat → Bool) (m : Nat) : Nat → Int
  | 0 => -1
  | t + 1 => if p (m - 1 - t) = true then ((m - 1 - t : Nat) : Int) else nx p m t
theorem Blk.grown {w w' : World} {g : Nat} {t : TypeId} {cs : Array Value} {row : Option Nat} (h : Blk w g t cs) (hg : w.grownBy w' row) (hne : some g ≠ row) : Blk w' g t cs := (hg.block g h.lt hne).trans h
theorem Off.ne {v : Value} {g : Nat} (h : Off v g (g + 1)) : some g ≠ v.ownBlock := fun e => by have := h g e.symm; omega

theorem infoInt : (Tryz.prog.info? 3).map (fun i => (i.zero, i.size, i.bytes)) = some (some (.int .i64 0), 1, 8) := by kernel_rfl

end Go.Proofs.YtmbdacfgmiielaaGreat

/-
  Contract of the comparison of lists of numbers.
-/
import Derived.Test.YtbglkjmoednapaaDoorInts
import Derived.Deep.QuietTactic
import Derived.BigQuiet
namespace Go.Proofs.YtbglkjmoednapaaDoor
set_option linter.unusedSimpArgs false
set_option linter.unusedVariables false
set_option maxRecDepth 100000
open Go.RowKit

set_option maxHeartbeats 1000000 in
theorem sameInts_c (xs : List Int) (S S' : Nat → Prop) (A B : Option Addr) (c d : Nat) (w : World) (hx : Ints S w A xs) (hy : Ints S' w B xs) (hn : xs.length ≤ 1048576) :
    Calls Tryd.prog 7 #[.slice A xs.length c, .slice B xs.length d] w fun e w' => e = .returned (.bool true) ∧ Ext w w' := by
  have e1 : ((xs.length : Int) != (xs.length : Int)) = false := by simp
  go_enter Tryd.func7, Tryd.ntmps7
  go_wp2
  go_loopw [5] (fun i wr => ∃ k : Nat, k ≤ xs.length ∧ i = .int .i64 k ∧ Ext w wr) (fun i _ => xs.length - (intOf i).toNat)
  case atStart => exact ⟨0, Nat.zero_le _, rfl, Below.refl _ _⟩
  case round =>
    obtain ⟨k, hk, rfl, hE⟩ := hrel
    by_cases hlt : k < xs.length
    · obtain ⟨x0, b, off, hxk, rfl, _, hb0, c0⟩ := (hx.ext hE).at_ hlt
      obtain ⟨y0, b', off', hyk, rfl, _, hb0', d0⟩ := (hy.ext hE).at_ hlt
      rw [hxk] at hyk
      cases hyk
      clear hxk
      have e2 : (x0 != x0) = false := by simp
      go_wp2
      go_quiet (fail)
      go_wp2
      go_roundw
      case rel => exact ⟨k + 1, by omega, by go_num, below_drewN hE _⟩
      case measure => simp [intOf]; omega
    · obtain rfl : k = xs.length := by omega
      go_wp2
      go_ret
      exact ⟨rfl, hE⟩
end Go.Proofs.YtbglkjmoednapaaDoor

/-
  Contracts of LastValue, the reference's and the program's.
-/
import Derived.Test.YtdgfipoibnjhaaaWriter
import Derived.Test.YtdgfipoibnjhaaaReads
namespace Go.Proofs.Ytdgfipoibnjhaaa
set_option linter.unusedSimpArgs false
set_option linter.unusedVariables false
set_option maxRecDepth 100000
open Go.RowKit

theorem lastW_ok {ops : List T3} {key : Int} {n : Nat} {o : T3} (h : lastW ops key n = some o) : o.a = 2 ∧ o.b = key := by
  induction n with
  | zero => cases h
  | succ n ih =>
    unfold lastW at h
    split at h
    · split at h
      · rename_i hc; cases h; exact hc
      · exact ih h
    · exact ih h
theorem lws_mem {ops : List T3} {n : Nat} {o : T3} (h : o ∈ lwsTo ops n) : o.a = 2 ∧ lastW ops o.b ops.length = some o := by
  induction n with
  | zero => cases h
  | succ n ih =>
    rcases List.mem_append.1 h with h | h
    · exact ih h
    · rw [Option.mem_toList] at h
      have := lastW_ok h
      exact ⟨this.1, by rw [this.2]; exact h⟩
end Go.Proofs.Ytdgfipoibnjhaaa

/-
  Contracts of LastValue, the reference's and the program's.
-/
import Derived.Test.YtdohbmegkkkchaaWriter
import Derived.Test.YtdohbmegkkkchaaReads
namespace Go.Proofs.Ytdohbmegkkkchaa
set_option linter.unusedSimpArgs false
set_option linter.unusedVariables false
set_option maxRecDepth 100000
open Go.RowKit

theorem lastW_ok {ops : List T3} {key : Int} {n : Nat} {o : T3} (h : lastW ops key n = some o) : o.a = 2 ∧ o.b = key := by
  induction n with
  | zero => cases h
  | succ n ih =>
    unfold lastW at h
    split at h
    · split at h
      · rename_i hc; cases h; exact hc
      · exact ih h
    · exact ih h
theorem lws_mem {ops : List T3} {n : Nat} {o : T3} (h : o ∈ lwsTo ops n) : o.a = 2 ∧ lastW ops o.b ops.length = some o := by
  induction n with
  | zero => cases h
  | succ n ih =>
    rcases List.mem_append.1 h with h | h
    · exact ih h
    · rw [Option.mem_toList] at h
      have := lastW_ok h
      exact ⟨this.1, by rw [this.2]; exact h⟩
theorem lws_key {ops : List T3} {n : Nat} {o : T3} {key val : Int} (h : o ∈ lwsTo ops n) (hk : o.b = key) : ((⟨2, key, val⟩ : T3) ∈ lwsTo ops n) ↔ o.c = val := by
  have h1 := lws_mem h
  constructor
  · intro h2
    have h3 := (lws_mem h2).2
    simp only at h3
    rw [hk, h3] at h1
    cases h1.2
    rfl
  · intro hv
    obtain ⟨a, b, c⟩ := o
    simp only at hk hv h1
    obtain rfl := h1.1
    subst hk hv
    exact h
theorem lws_nokey {ops : List T3} {n : Nat} {key val : Int} (h : ∀ o ∈ lwsTo ops n, o.b ≠ key) : (⟨2, key, val⟩ : T3) ∉ lwsTo ops n := fun hm => h _ hm rfl

/-- whether a value is the last one that its writer writes to the key -/
def lastv (h : List TxnT) (key val : Int) : Bool := decide (0 ≤ wrN h key val) && (match h[(wrN h key val).toNat]? with | some t => decide ((⟨2, key, val⟩ : T3) ∈ lwsTo t.ops 3) | none => false)



end Go.Proofs.Ytdohbmegkkkchaa

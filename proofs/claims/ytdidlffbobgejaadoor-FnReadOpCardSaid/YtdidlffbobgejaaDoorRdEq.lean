/-
  Comparing operations; sizes of texts.
-/
import Derived.Test.YtdidlffbobgejaaDoorRdOpD
namespace Go.Proofs.YtdidlffbobgejaaDoor
set_option linter.unusedSimpArgs false
set_option linter.unusedVariables false
set_option maxRecDepth 100000
open Go.RowKit

theorem eqOpR_run (a b c a' b' c' : Int) (w : World) : (binOp .eql 23 (.agg #[.int .i64 a, .int .i64 b, .int .i64 c]) (.agg #[.int .i64 a', .int .i64 b', .int .i64 c'])).run Tryd.prog w = .ok (.bool (decide ((⟨a, b, c⟩ : T3) = ⟨a', b', c'⟩))) w := by
  have u3 := Tryd.underlying3
  have hS : Tryd.prog.underlying 23 = some (.struct (Tryd.prog.fieldsOf 23)) := by kernel_rfl
  have hp : Tryd.prog.stoodInHeld 23 = false := by kernel_rfl
  rw [run_eql_struct, show (10000 : Nat) = 9999 + 1 from rfl, run_equalIn_agg w 9999 23 _ _ hS hp]
  simp only [Program.fieldsOf, Tryd.underlying23]
  go_simp
  by_cases h1 : a = a' <;> by_cases h2 : b = b' <;> by_cases h3 : c = c' <;> simp [h1, h2, h3]
theorem eqOpR_guard : Tryd.prog.eqGuardType Tryd.prog.depth 23 = false := by kernel_rfl
theorem neqOpR_run (a b c a' b' c' : Int) (w : World) : (binOp .neq 23 (.agg #[.int .i64 a, .int .i64 b, .int .i64 c]) (.agg #[.int .i64 a', .int .i64 b', .int .i64 c'])).run Tryd.prog w = .ok (.bool (!decide ((⟨a, b, c⟩ : T3) = ⟨a', b', c'⟩))) w := by
  have u3 := Tryd.underlying3
  have hS : Tryd.prog.underlying 23 = some (.struct (Tryd.prog.fieldsOf 23)) := by kernel_rfl
  have hp : Tryd.prog.stoodInHeld 23 = false := by kernel_rfl
  rw [run_neq_struct, show (10000 : Nat) = 9999 + 1 from rfl, run_equalIn_agg w 9999 23 _ _ hS hp]
  simp only [Program.fieldsOf, Tryd.underlying23]
  go_simp
  by_cases h1 : a = a' <;> by_cases h2 : b = b' <;> by_cases h3 : c = c' <;> simp [h1, h2, h3]
theorem neqOpR_guard : Tryd.prog.eqGuardType Tryd.prog.depth 23 = false := by kernel_rfl
theorem optx_sz (o : T3) : (optx o).size ≤ 6 := by
  unfold optx
  split
  · rename_i h
    have hbd : 0 ≤ o.b ∧ o.b < 100 ∧ 0 ≤ o.c ∧ o.c < 100 := by
      simp only [opv, inB, Bool.and_eq_true, decide_eq_true_eq] at h
      omega
    have g2 : ByteArray.size ⟨(Lib.decDigits o.b.toNat).toArray⟩ ≤ 2 := dec_size (by omega)
    have g3 : ByteArray.size ⟨(Lib.decDigits o.c.toNat).toArray⟩ ≤ 2 := dec_size (by omega)
    have g1 : (letr o.a).size ≤ 1 := by unfold letr; split <;> exact Nat.le_refl 1
    have g4 : ByteArray.size ⟨#[61]⟩ = 1 := rfl
    simp only [ByteArray.size_append]
    omega
  · exact Nat.zero_le _
end Go.Proofs.YtdidlffbobgejaaDoor

/-
  Small facts of drawn orders.
-/
import Derived.Test.YtdgfipoibnjhaaaDoorOrdD
namespace Go.Proofs.YtdgfipoibnjhaaaDoor
set_option linter.unusedSimpArgs false
set_option linter.unusedVariables false
set_option maxRecDepth 100000
open Go.RowKit

theorem SmallO.small {R : List (List Int)} (h : SmallO R) : SmallR R := by
  obtain ⟨h1, h2⟩ := h
  have h3 : tot R ≤ 36 * R.length := by
    clear h1
    induction R with
    | nil => simp [tot]
    | cons x xs ih =>
      have := h2 x (by simp)
      have := ih (fun l hl => h2 l (by simp [hl]))
      simp only [tot, List.map_cons, List.sum_cons, List.length_cons] at this ⊢
      omega
  unfold SmallR
  omega
theorem txns_anyO {B : Nat} {w : World} {A : Option Addr} {h : List TxnT} (hx : Txns (fun b => B ≤ b) w A h) : Txns Any w A h := SlAt.mono hx (fun _ _ _ => trivial) (mono_txn (fun _ _ _ => trivial))
theorem rows_anyO {B : Nat} {w : World} {A : Option Addr} {R : List (List Int)} (hx : Rows2 (fun b => B ≤ b) w A R) : Rows2 Any w A R := SlAt.mono hx (fun _ _ _ => trivial) (mono_row (fun _ _ _ => trivial))
end Go.Proofs.YtdgfipoibnjhaaaDoor

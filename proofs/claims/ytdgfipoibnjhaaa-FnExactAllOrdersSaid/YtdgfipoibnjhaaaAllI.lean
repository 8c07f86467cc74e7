/-
  The program's AllOrders.
-/
import Derived.Test.YtdgfipoibnjhaaaOutR
import Derived.Test.YtdgfipoibnjhaaaPermI
import Derived.Test.YtdgfipoibnjhaaaFirO
namespace Go.Proofs.Ytdgfipoibnjhaaa
set_option linter.unusedSimpArgs false
set_option linter.unusedVariables false
set_option maxRecDepth 100000
open Go.RowKit

/-- lists of rows handed back -/
def FreshX (X : List (List (List Int))) (w : World) (e : Ending) (w' : World) : Prop := ∃ A c, e = .returned (.slice A X.length c) ∧ Rows3 Any w' A X ∧ Ext w w'
theorem OutX.fresh {w w' : World} {B c : Nat} {A : Option Addr} {es : List PX} (h : OutX w' B (.slice A es.length c) es) (hE : Ext w w') : ∀ c', FreshX (es.map PX.rows) w (.returned (.slice A es.length c')) w' := fun c' => by
  obtain ⟨A', c1, hv, _, hR⟩ := h.reads
  simp only [Value.slice.injEq] at hv
  obtain ⟨rfl, _, _⟩ := hv
  exact ⟨A, c', by rw [List.length_map], SlAt.mono hR (fun _ _ _ => trivial) (mono_rows (fun _ _ _ => trivial)), hE⟩
theorem clipI_c (A : Option Addr) (n c : Nat) (w : World) (h : n ≤ c) : Calls Try.prog 23 #[.slice A n c] w fun e w' => e = .returned (.slice A n n) ∧ w' = w := by
  go_enter Try.func23, Try.ntmps23
  go_wp2
  go_ret
  exact ⟨rfl, rfl⟩
theorem clipX_c (A : Option Addr) (n c : Nat) (w : World) (h : n ≤ c) : Calls Try.prog 24 #[.slice A n c] w fun e w' => e = .returned (.slice A n n) ∧ w' = w := by
  go_enter Try.func24, Try.ntmps24
  go_wp2
  go_ret
  exact ⟨rfl, rfl⟩
end Go.Proofs.Ytdgfipoibnjhaaa

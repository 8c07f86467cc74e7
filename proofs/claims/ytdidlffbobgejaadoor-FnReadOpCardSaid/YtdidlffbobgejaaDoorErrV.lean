/-
  The library's two errors, out of what the rows list.
-/
import Derived.Test.YtdidlffbobgejaaDoorRdOpI
import Derived.Test.YtdidlffbobgejaaDoorLaid
import Derived.Stop.LaidErr
namespace Go.Proofs.YtdidlffbobgejaaDoor
set_option linter.unusedSimpArgs false
set_option linter.unusedVariables false
set_option maxRecDepth 100000
open Go.ChangeShapes Go.WideShapes Go.ChangeAt Go.RowKit Go.Joins

theorem star : "*" ++ "errors.errorString" = "*errors.errorString" := by decide
theorem rowE (u : TypeId) (h : Tryd.prog.typeName? 3 u = some "*errors.errorString") : u = 123 :=
  typeName_ptr_named (nm := "errors.errorString") (by rw [star]; kernel_rfl) (by kernel_rfl) (by decide) u (by rw [star]; exact h)
theorem cell_block {w : World} {a : Addr} {v : Value} (h : w.cell? a = some v) : a.block < w.heap.size := by
  rcases Nat.lt_or_ge a.block w.heap.size with h' | h'
  · exact h'
  · simp [World.cell?, Array.getElem?_eq_none h'] at h
theorem errs_laid {W : World} (h : laidMet Tryd.prog Rows.fnExactReadOpRow.laid W) : ErrVars W := by
  have h2 : laidMet Tryd.prog (("strconv.ErrRange", Rows.laid_strconv_ErrRange) :: ("strconv.ErrSyntax", Rows.laid_strconv_ErrSyntax) :: []) W := h.tail.tail.tail
  obtain ⟨a0, s0, hv0, _⟩ := laid_sentinel h2 (show Tryd.prog.globalNamed "strconv.ErrRange" = some 1 by kernel_rfl) (show _ = some 52 by kernel_rfl) Tryd.underlying52 rowE Tryd.underlying123 Tryd.underlying125 rfl rfl Tryd.underlying9 (by kernel_rfl) (by kernel_rfl)
  obtain ⟨a1, s1, hv1, _⟩ := laid_sentinel h2.tail (show Tryd.prog.globalNamed "strconv.ErrSyntax" = some 0 by kernel_rfl) (show _ = some 52 by kernel_rfl) Tryd.underlying52 rowE Tryd.underlying123 Tryd.underlying125 rfl rfl Tryd.underlying9 (by kernel_rfl) (by kernel_rfl)
  have c0 := World.var?_cell (show Tryd.prog.globalNamed "strconv.ErrRange" = some 1 by kernel_rfl) hv0 0
  have c1 := World.var?_cell (show Tryd.prog.globalNamed "strconv.ErrSyntax" = some 0 by kernel_rfl) hv1 0
  have e0 : Tryd.laysC172_ren.g 16 = 1 := by kernel_rfl
  have e1 : Tryd.laysC172_ren.g 15 = 0 := by kernel_rfl
  unfold ErrVars
  rw [e0, e1]
  exact ⟨⟨_, c1, .inr ⟨_, _, rfl⟩, cell_block c1⟩, ⟨_, c0, .inr ⟨_, _, rfl⟩, cell_block c0⟩⟩
end Go.Proofs.YtdidlffbobgejaaDoor

/-
  Plain facts on writers; a drawn history read by anyone.
-/
import Derived.Test.YtdgfipoibnjhaaaDoorWriter
namespace Go.Proofs.YtdgfipoibnjhaaaDoor
set_option linter.unusedSimpArgs false
set_option linter.unusedVariables false
set_option maxRecDepth 100000
open Go.RowKit

theorem prs_mem {h : List TxnT} {p : Nat × T3} (hm : p ∈ prs h) : ∃ t, h[p.1]? = some t ∧ p.2 ∈ t.ops := by
  unfold prs at hm
  rw [List.mem_flatMap] at hm
  obtain ⟨⟨t, n⟩, hz, ho⟩ := hm
  rw [List.mem_map] at ho
  obtain ⟨o, ho, rfl⟩ := ho
  have := List.mem_zipIdx_iff_getElem?.1 hz
  exact ⟨t, by simpa using this, ho⟩
theorem wrN_mem {h : List TxnT} {key val : Int} (hw : 0 ≤ wrN h key val) : ∃ (k : Nat) (t : TxnT), wrN h key val = k ∧ h[k]? = some t ∧ (⟨2, key, val⟩ : T3) ∈ t.ops := by
  unfold wrN at hw ⊢
  cases e : (prs h).find? (isW key val) with
  | none => rw [e] at hw; simp at hw
  | some p =>
    obtain ⟨t, h1, h2⟩ := prs_mem (List.mem_of_find?_eq_some e)
    have h3 := List.find?_some e
    simp only [isW, decide_eq_true_eq] at h3
    exact ⟨p.1, t, rfl, h1, by rw [← h3]; exact h2⟩
theorem wrN_zero {h : List TxnT} {key : Int} (hv : histv h = true) : wrN h key 0 = -1 := by
  rcases wrN_range h key 0 with h1 | ⟨k, _, h1⟩
  · exact h1
  · obtain ⟨k', t, _, h2, h3⟩ := wrN_mem (h := h) (key := key) (val := 0) (by omega)
    have ht := List.mem_of_getElem? h2
    simp only [histv, Bool.and_eq_true, List.all_eq_true] at hv
    have h4 := hv.1 t ht
    simp only [txnOnce, Bool.and_eq_true] at h4
    have h5 := h4.1
    simp only [txnv, Bool.and_eq_true, List.all_eq_true] at h5
    have h6 := h5.1 _ h3
    simp [opv, inB] at h6
theorem txns_any {B : Nat} {w : World} {A : Option Addr} {h : List TxnT} (hx : Txns (fun b => B ≤ b) w A h) : Txns Any w A h := SlAt.mono hx (fun _ _ _ => trivial) (mono_txn (fun _ _ _ => trivial))
theorem mem_take_succ {ops : List T3} {j : Nat} {o x : T3} (hj : ops[j]? = some o) : decide (x ∈ ops.take (j + 1)) = (decide (x ∈ ops.take j) || decide (o = x)) := by
  rw [List.take_add_one, hj]
  simp [eq_comm]
end Go.Proofs.YtdgfipoibnjhaaaDoor

/-
  A value of a valid history has one writer.
-/
import Derived.Test.YtdgfipoibnjhaaaWriter
/-
  Plain facts on writers; a drawn history read by anyone.
-/
namespace Go.Proofs.Ytdgfipoibnjhaaa
set_option linter.unusedSimpArgs false
set_option linter.unusedVariables false
set_option maxRecDepth 100000
open Go.RowKit

theorem prs_mem {h : List TxnT} {p : Nat × T3} (hm : p ∈ prs h) : ∃ t, h[p.1]? = some t ∧ p.2 ∈ t.ops := by
  unfold prs at hm
  rw [List.mem_flatMap] at hm
  obtain ⟨⟨t, n⟩, hz, ho⟩ := hm
  rw [List.mem_map] at ho
  obtain ⟨o, ho, rfl⟩ := ho
  have := List.mem_zipIdx_iff_getElem?.1 hz
  exact ⟨t, by simpa using this, ho⟩
theorem wrN_mem {h : List TxnT} {key val : Int} (hw : 0 ≤ wrN h key val) : ∃ (k : Nat) (t : TxnT), wrN h key val = k ∧ h[k]? = some t ∧ (⟨2, key, val⟩ : T3) ∈ t.ops := by
  unfold wrN at hw ⊢
  cases e : (prs h).find? (isW key val) with
  | none => rw [e] at hw; simp at hw
  | some p =>
    obtain ⟨t, h1, h2⟩ := prs_mem (List.mem_of_find?_eq_some e)
    have h3 := List.find?_some e
    simp only [isW, decide_eq_true_eq] at h3
    exact ⟨p.1, t, rfl, h1, by rw [← h3]; exact h2⟩
end Go.Proofs.Ytdgfipoibnjhaaa
namespace Go.Proofs.Ytdgfipoibnjhaaa
set_option linter.unusedSimpArgs false
set_option linter.unusedVariables false
set_option maxRecDepth 100000
open Go.RowKit

theorem two_count {h : List TxnT} {x : T3} : ∀ {i j : Nat} {t t' : TxnT}, i < j → h[i]? = some t → h[j]? = some t' → x ∈ t.ops → x ∈ t'.ops → 2 ≤ (allOps h).count x := by
  induction h with
  | nil => intro i j t t' _ h1; simp at h1
  | cons a h ih =>
    intro i j t t' hij h1 h2 m1 m2
    have e : allOps (a :: h) = a.ops ++ allOps h := by simp [allOps]
    rw [e, List.count_append]
    cases j with
    | zero => omega
    | succ j =>
      cases i with
      | zero =>
        simp at h1
        subst h1
        have c1 : 0 < a.ops.count x := List.count_pos_iff.2 m1
        have c2 : 0 < (allOps h).count x := List.count_pos_iff.2 (by
          unfold allOps
          rw [List.mem_flatMap]
          exact ⟨t', List.mem_of_getElem? (by simpa using h2), m2⟩)
        omega
      | succ i =>
        have := ih (i := i) (j := j) (by omega) (by simpa using h1) (by simpa using h2) m1 m2
        omega
theorem wrN_of {h : List TxnT} {key v : Int} {k : Nat} {t : TxnT} (hv : histv h = true) (hk : h[k]? = some t) (hm : (⟨2, key, v⟩ : T3) ∈ t.ops) : wrN h key v = k := by
  have h0 : 0 ≤ wrN h key v := by
    unfold wrN
    cases e : (prs h).find? (isW key v) with
    | none =>
      rw [List.find?_eq_none] at e
      have hz : (k, (⟨2, key, v⟩ : T3)) ∈ prs h := by
        unfold prs
        rw [List.mem_flatMap]
        exact ⟨(t, k), List.mem_zipIdx_iff_getElem?.2 (by simpa using hk), List.mem_map.2 ⟨_, hm, rfl⟩⟩
      have := e _ hz
      simp [isW] at this
    | some p => simp
  obtain ⟨k', t', e, hk', hm'⟩ := wrN_mem h0
  rw [e]
  rcases Nat.lt_trichotomy k k' with hlt | heq | hlt
  · exfalso
    have h2 := two_count hlt hk hk' hm hm'
    simp only [histv, Bool.and_eq_true, List.all_eq_true] at hv
    have h3 := hv.1 t (List.mem_of_getElem? hk)
    simp only [txnOnce, Bool.and_eq_true, List.all_eq_true] at h3
    have h4 := h3.2 _ hm
    simp only [opOnce, Bool.not_eq_true', Bool.and_eq_false_iff, decide_eq_false_iff_not] at h4
    rcases h4 with h4 | h4
    · simp at h4
    · omega
  · rw [heq]
  · exfalso
    have h2 := two_count hlt hk' hk hm' hm
    simp only [histv, Bool.and_eq_true, List.all_eq_true] at hv
    have h3 := hv.1 t (List.mem_of_getElem? hk)
    simp only [txnOnce, Bool.and_eq_true, List.all_eq_true] at h3
    have h4 := h3.2 _ hm
    simp only [opOnce, Bool.not_eq_true', Bool.and_eq_false_iff, decide_eq_false_iff_not] at h4
    rcases h4 with h4 | h4
    · simp at h4
    · omega
end Go.Proofs.Ytdgfipoibnjhaaa

/-
  A history of last writes alone reads right: plain facts.
-/
import Derived.Test.YtdgfipoibnjhaaaDoorRRd
namespace Go.Proofs.YtdgfipoibnjhaaaDoor
set_option linter.unusedSimpArgs false
set_option linter.unusedVariables false
set_option maxRecDepth 100000
open Go.RowKit

theorem lastW_memW {ops : List T3} {key : Int} {n : Nat} {o : T3} (h : lastW ops key n = some o) : o ∈ ops := by
  induction n with
  | zero => cases h
  | succ n ih =>
    unfold lastW at h
    split at h
    · rename_i x hx
      split at h
      · cases h
        exact List.mem_of_getElem? hx
      · exact ih h
    · exact ih h
theorem lws_belowW {ops : List T3} {n : Nat} {o : T3} (h : o ∈ lwsTo ops n) : o.b < n := by
  induction n with
  | zero => cases h
  | succ n ih =>
    rcases List.mem_append.1 h with h | h
    · have := ih h
      omega
    · rw [Option.mem_toList] at h
      have := (lastW_ok h).2
      omega
theorem lws_count (ops : List T3) (x : T3) (n : Nat) : (lwsTo ops n).count x ≤ 1 := by
  induction n with
  | zero => exact Nat.zero_le _
  | succ n ih =>
    have e : lwsTo ops (n + 1) = lwsTo ops n ++ (lastW ops n ops.length).toList := rfl
    rw [e, List.count_append]
    cases hl : lastW ops n ops.length with
    | none => simpa using ih
    | some o =>
      simp only [Option.toList]
      by_cases he : o = x
      · subst he
        have hb := (lastW_ok hl).2
        have h0 : (lwsTo ops n).count o = 0 := by
          rw [List.count_eq_zero]
          intro hm
          have := lws_belowW hm
          omega
        rw [h0]
        simp
      · rw [List.count_cons_of_ne he]
        simpa using ih
/-- a transaction with its last writes alone -/
def lwT (t : TxnT) : TxnT := ⟨t.sess, (if txnv t = true then lwsTo t.ops 3 else []), t.done⟩
def lwH (h : List TxnT) : List TxnT := h.map lwT
theorem lwT_count (t : TxnT) (x : T3) : (lwT t).ops.count x ≤ t.ops.count x := by
  unfold lwT
  simp only
  split
  · by_cases hm : x ∈ lwsTo t.ops 3
    · have h1 := lws_count t.ops x 3
      have h2 : 0 < t.ops.count x := List.count_pos_iff.2 (lastW_memW (lws_mem hm).2)
      omega
    · rw [List.count_eq_zero.2 hm]
      exact Nat.zero_le _
  · simp
theorem lwH_count (h : List TxnT) (x : T3) : (allOps (lwH h)).count x ≤ (allOps h).count x := by
  induction h with
  | nil => exact Nat.le_refl _
  | cons t h ih =>
    have e1 : allOps (t :: h) = t.ops ++ allOps h := by simp [allOps]
    have e2 : allOps (lwH (t :: h)) = (lwT t).ops ++ allOps (lwH h) := by simp [allOps, lwH]
    rw [e1, e2, List.count_append, List.count_append]
    have := lwT_count t x
    omega
theorem lwT_w {t : TxnT} {o : T3} (h : o ∈ (lwT t).ops) : o.a = 2 := by
  unfold lwT at h
  simp only at h
  split at h
  · exact (lws_mem h).1
  · cases h
theorem lwT_valid {t : TxnT} (hv : txnv t = true) : txnv (lwT t) = true := by
  unfold lwT
  rw [if_pos hv]
  simp only [txnv, Bool.and_eq_true, decide_eq_true_eq, List.all_eq_true] at hv ⊢
  refine ⟨fun o ho => hv.1 o (lastW_memW (lws_mem ho).2), hv.2.1, ?_⟩
  have := lwsTo_len t.ops 3
  omega
theorem lwH_valid {h : List TxnT} (hv : histv h = true) : histv (lwH h) = true := by
  simp only [histv, Bool.and_eq_true, List.all_eq_true, decide_eq_true_eq] at hv ⊢
  refine ⟨fun t' ht' => ?_, by unfold lwH; rw [List.length_map]; exact hv.2⟩
  obtain ⟨t, ht, rfl⟩ := List.mem_map.1 ht'
  have h1 := hv.1 t ht
  simp only [txnOnce, Bool.and_eq_true, List.all_eq_true] at h1 ⊢
  refine ⟨lwT_valid h1.1, fun o ho => ?_⟩
  have hm : o ∈ t.ops := by
    have h9 := ho
    unfold lwT at h9
    rw [if_pos h1.1] at h9
    exact lastW_memW (lws_mem h9).2
  have h2 := h1.2 o hm
  have h3 := lwH_count h (⟨2, o.b, o.c⟩ : T3)
  simp only [opOnce, Bool.not_eq_true', Bool.and_eq_false_iff, decide_eq_false_iff_not] at h2 ⊢
  rcases h2 with h2 | h2
  · exact .inl h2
  · exact .inr (by omega)
theorem oeT_w {who : Int} {ops : List T3} (hw : ∀ o ∈ ops, o.a = 2) (n : Nat) : oeT who ops n = [] := by
  induction n with
  | zero => rfl
  | succ n ih =>
    cases ho : ops[n]? with
    | none =>
      conv => lhs; unfold oeT
      rw [ho]
      exact ih
    | some o =>
      rw [oeT_miss ho (by have := hw o (List.mem_of_getElem? ho); omega)]
      exact ih
theorem brT_w {h : List TxnT} {kind : Int} {n : Nat} {ops : List T3} (hk : kind ≠ 0) (hw : ∀ o ∈ ops, o.a = 2) (j : Nat) : brT h kind n ops j = [] := by
  induction j with
  | zero => rfl
  | succ j ih =>
    cases ho : ops[j]? with
    | none =>
      conv => lhs; unfold brT
      rw [ho]
      exact ih
    | some o =>
      rw [brT_miss ho (by rw [k6_zero (.inl (by have := hw o (List.mem_of_getElem? ho); omega))]; omega)]
      exact ih
theorem bads_w {h : List TxnT} {kind : Int} (hk : kind ≠ 0) (hw : ∀ t ∈ h, ∀ o ∈ t.ops, o.a = 2) : bads h kind = [] := by
  unfold bads
  split
  · have : ∀ n, bdH h kind n = [] := fun n => by
      induction n with
      | zero => rfl
      | succ n ih =>
        cases hn : h[n]? with
        | none =>
          conv => lhs; unfold bdH
          rw [hn]
          exact ih
        | some t =>
          have hwt := hw t (List.mem_of_getElem? hn)
          have hz : bdT h kind n t.ops = [] := by
            unfold bdT
            split
            · exact oeT_w hwt _
            · exact brT_w hk hwt _
          rw [bdH_succ hn, ih, hz]
          split <;> rfl
    exact this _
  · rfl
theorem earlyB_w {l : List T3} (hw : ∀ o ∈ l, o.a = 2) : earlyB l = false := by
  induction l with
  | nil => rfl
  | cons o r ih =>
    unfold earlyB
    rw [ih (fun x hx => hw x (List.mem_cons_of_mem _ hx))]
    have := hw o (List.mem_cons_self ..)
    simp [this]
/-- a history of last writes alone reads right -/
theorem rrI_lw {h : List TxnT} (hv : histv h = true) : rrI (lwH h) = true := by
  have hw : ∀ t ∈ lwH h, ∀ o ∈ t.ops, o.a = 2 := fun t ht o ho => by
    obtain ⟨t', _, rfl⟩ := List.mem_map.1 ht
    exact lwT_w ho
  unfold rrI
  rw [lwH_valid hv, noBad_of (fun q h1 h2 => bads_w (by omega) hw), Bool.true_and, Bool.true_and, List.all_eq_true]
  intro t ht
  rw [earlyB_w (hw t ht)]
  simp
end Go.Proofs.YtdgfipoibnjhaaaDoor

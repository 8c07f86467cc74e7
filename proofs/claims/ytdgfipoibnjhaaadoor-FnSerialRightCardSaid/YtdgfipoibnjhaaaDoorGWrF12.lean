/-
  A value of a valid history has one writer.
-/
import Derived.Test.YtdgfipoibnjhaaaDoorWriter
/-
  Plain facts on writers; a drawn history read by anyone.
-/
namespace Go.Proofs.YtdgfipoibnjhaaaDoor
set_option linter.unusedSimpArgs false
set_option linter.unusedVariables false
set_option maxRecDepth 100000
open Go.RowKit

theorem prs_mem {h : List TxnT} {p : Nat × T3} (hm : p ∈ prs h) : ∃ t, h[p.1]? = some t ∧ p.2 ∈ t.ops := by
  unfold prs at hm
  rw [List.mem_flatMap] at hm
  obtain ⟨⟨t, n⟩, hz, ho⟩ := hm
  rw [List.mem_map] at ho
  obtain ⟨o, ho, rfl⟩ := ho
  have := List.mem_zipIdx_iff_getElem?.1 hz
  exact ⟨t, by simpa using this, ho⟩
theorem wrN_mem {h : List TxnT} {key val : Int} (hw : 0 ≤ wrN h key val) : ∃ (k : Nat) (t : TxnT), wrN h key val = k ∧ h[k]? = some t ∧ (⟨2, key, val⟩ : T3) ∈ t.ops := by
  unfold wrN at hw ⊢
  cases e : (prs h).find? (isW key val) with
  | none => rw [e] at hw; simp at hw
  | some p =>
    obtain ⟨t, h1, h2⟩ := prs_mem (List.mem_of_find?_eq_some e)
    have h3 := List.find?_some e
    simp only [isW, decide_eq_true_eq] at h3
    exact ⟨p.1, t, rfl, h1, by rw [← h3]; exact h2⟩
theorem wrN_zero {h : List TxnT} {key : Int} (hv : histv h = true) : wrN h key 0 = -1 := by
  rcases wrN_range h key 0 with h1 | ⟨k, _, h1⟩
  · exact h1
  · obtain ⟨k', t, _, h2, h3⟩ := wrN_mem (h := h) (key := key) (val := 0) (by omega)
    have ht := List.mem_of_getElem? h2
    simp only [histv, Bool.and_eq_true, List.all_eq_true] at hv
    have h4 := hv.1 t ht
    simp only [txnOnce, Bool.and_eq_true] at h4
    have h5 := h4.1
    simp only [txnv, Bool.and_eq_true, List.all_eq_true] at h5
    have h6 := h5.1 _ h3
    simp [opv, inB] at h6
theorem txns_any {B : Nat} {w : World} {A : Option Addr} {h : List TxnT} (hx : Txns (fun b => B ≤ b) w A h) : Txns Any w A h := SlAt.mono hx (fun _ _ _ => trivial) (mono_txn (fun _ _ _ => trivial))
theorem mem_take_succ {ops : List T3} {j : Nat} {o x : T3} (hj : ops[j]? = some o) : decide (x ∈ ops.take (j + 1)) = (decide (x ∈ ops.take j) || decide (o = x)) := by
  rw [List.take_add_one, hj]
  simp [eq_comm]
end Go.Proofs.YtdgfipoibnjhaaaDoor
namespace Go.Proofs.YtdgfipoibnjhaaaDoor
set_option linter.unusedSimpArgs false
set_option linter.unusedVariables false
set_option maxRecDepth 100000
open Go.RowKit

theorem two_count {h : List TxnT} {x : T3} : ∀ {i j : Nat} {t t' : TxnT}, i < j → h[i]? = some t → h[j]? = some t' → x ∈ t.ops → x ∈ t'.ops → 2 ≤ (allOps h).count x := by
  induction h with
  | nil => intro i j t t' _ h1; simp at h1
  | cons a h ih =>
    intro i j t t' hij h1 h2 m1 m2
    have e : allOps (a :: h) = a.ops ++ allOps h := by simp [allOps]
    rw [e, List.count_append]
    cases j with
    | zero => omega
    | succ j =>
      cases i with
      | zero =>
        simp at h1
        subst h1
        have c1 : 0 < a.ops.count x := List.count_pos_iff.2 m1
        have c2 : 0 < (allOps h).count x := List.count_pos_iff.2 (by
          unfold allOps
          rw [List.mem_flatMap]
          exact ⟨t', List.mem_of_getElem? (by simpa using h2), m2⟩)
        omega
      | succ i =>
        have := ih (i := i) (j := j) (by omega) (by simpa using h1) (by simpa using h2) m1 m2
        omega
theorem wrN_of {h : List TxnT} {key v : Int} {k : Nat} {t : TxnT} (hv : histv h = true) (hk : h[k]? = some t) (hm : (⟨2, key, v⟩ : T3) ∈ t.ops) : wrN h key v = k := by
  have h0 : 0 ≤ wrN h key v := by
    unfold wrN
    cases e : (prs h).find? (isW key v) with
    | none =>
      rw [List.find?_eq_none] at e
      have hz : (k, (⟨2, key, v⟩ : T3)) ∈ prs h := by
        unfold prs
        rw [List.mem_flatMap]
        exact ⟨(t, k), List.mem_zipIdx_iff_getElem?.2 (by simpa using hk), List.mem_map.2 ⟨_, hm, rfl⟩⟩
      have := e _ hz
      simp [isW] at this
    | some p => simp
  obtain ⟨k', t', e, hk', hm'⟩ := wrN_mem h0
  rw [e]
  rcases Nat.lt_trichotomy k k' with hlt | heq | hlt
  · exfalso
    have h2 := two_count hlt hk hk' hm hm'
    simp only [histv, Bool.and_eq_true, List.all_eq_true] at hv
    have h3 := hv.1 t (List.mem_of_getElem? hk)
    simp only [txnOnce, Bool.and_eq_true, List.all_eq_true] at h3
    have h4 := h3.2 _ hm
    simp only [opOnce, Bool.not_eq_true', Bool.and_eq_false_iff, decide_eq_false_iff_not] at h4
    rcases h4 with h4 | h4
    · simp at h4
    · omega
  · rw [heq]
  · exfalso
    have h2 := two_count hlt hk' hk hm' hm
    simp only [histv, Bool.and_eq_true, List.all_eq_true] at hv
    have h3 := hv.1 t (List.mem_of_getElem? hk)
    simp only [txnOnce, Bool.and_eq_true, List.all_eq_true] at h3
    have h4 := h3.2 _ hm
    simp only [opOnce, Bool.not_eq_true', Bool.and_eq_false_iff, decide_eq_false_iff_not] at h4
    rcases h4 with h4 | h4
    · simp at h4
    · omega
theorem two_in {L : List T3} {i j : Nat} {x : T3} (hij : i < j) (hi : L[i]? = some x) (hj : L[j]? = some x) : 2 ≤ L.count x := by
  have hl : j < L.length := (List.getElem?_eq_some_iff.1 hj).1
  rw [← List.take_append_drop j L, List.count_append]
  have c1 : 0 < (L.take j).count x := List.count_pos_iff.2 (List.mem_of_getElem? (i := i) (by rw [List.getElem?_take, if_pos hij]; exact hi))
  have c2 : 0 < (L.drop j).count x := List.count_pos_iff.2 (List.mem_of_getElem? (i := 0) (by rw [List.getElem?_drop]; exact hj))
  omega
theorem count_ops {h : List TxnT} {t : TxnT} (ht : t ∈ h) (x : T3) : t.ops.count x ≤ (allOps h).count x := by
  induction h with
  | nil => cases ht
  | cons a h ih =>
    have e : allOps (a :: h) = a.ops ++ allOps h := by simp [allOps]
    rw [e, List.count_append]
    rcases List.mem_cons.1 ht with rfl | ht
    · omega
    · have := ih ht
      omega
theorem ops_once {h : List TxnT} (hv : histv h = true) {t : TxnT} (ht : t ∈ h) {i j : Nat} {x : T3} (hx : x.a = 2) (hi : t.ops[i]? = some x) (hj : t.ops[j]? = some x) : i = j := by
  obtain ⟨a, b, c⟩ := x
  simp only at hx
  subst hx
  have hc : (allOps h).count (⟨2, b, c⟩ : T3) < 2 := by
    simp only [histv, Bool.and_eq_true, List.all_eq_true] at hv
    have h3 := hv.1 t ht
    simp only [txnOnce, Bool.and_eq_true, List.all_eq_true] at h3
    have h4 := h3.2 _ (List.mem_of_getElem? hi)
    simp only [opOnce, Bool.not_eq_true', Bool.and_eq_false_iff, decide_eq_false_iff_not] at h4
    rcases h4 with h4 | h4
    · simp at h4
    · omega
  have h2 := count_ops ht (⟨2, b, c⟩ : T3)
  rcases Nat.lt_trichotomy i j with hlt | heq | hlt
  · have := two_in hlt hi hj; omega
  · exact heq
  · have := two_in hlt hj hi; omega
end Go.Proofs.YtdgfipoibnjhaaaDoor

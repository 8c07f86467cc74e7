/-
  The check of a drawn region's written order, cheap for a long region: each operation looks at those behind it once.
-/
import Derived.Test.YtdgfipoibnjhaaaDoorDrawHd
import Derived.BigQuiet
namespace Go.Proofs.YtdgfipoibnjhaaaDoor
set_option linter.unusedSimpArgs false
set_option linter.unusedVariables false
set_option maxRecDepth 100000

def lexQ (md : Region.Mode) (ops : Array Oper) : List Oper → Nat → Bool
  | [], _ => true
  | o :: l, k => (o.after.toList.all fun e => !Region.binds md e || Nat.blt e.on k) && (l.all fun oj => oj.after.toList.any (fun e => Region.binds md e && Nat.beq e.on k) || o.apart ops oj) && lexQ md ops l (k + 1)

theorem lexQ_from {md : Region.Mode} {ops : Array Oper} : ∀ (l : List Oper) (k : Nat) (listed : Array Bool), (∀ j, l[j]? = ops[k + j]?) → k + l.length = ops.size → (∀ i, i < ops.size → listed[i]? = some (decide (i < k))) →
    lexQ md ops l k = true → Region.lexFrom md ops l.length k listed = true
  | [], k, listed, hl, hn, hs, h => by
    simp only [List.length_nil, Nat.add_zero] at hn
    simp only [List.length_nil, Region.lexFrom, Region.ready, List.isEmpty_iff, List.filter_eq_nil_iff, List.mem_range]
    intro i hi
    have := hs i hi
    simp [Array.getD_eq_getD_getElem?, this]
    omega
  | o :: l, k, listed, hl, hn, hs, h => by
    simp only [List.length_cons] at hn
    have h0 : ops[k]? = some o := by simpa using (hl 0).symm
    simp only [lexQ, Bool.and_eq_true, List.all_eq_true] at h
    obtain ⟨⟨ha, hf⟩, hr⟩ := h
    have hk : listed[k]? = some false := by have := hs k (by omega); simpa using this
    simp only [List.length_cons, Region.lexFrom, Bool.and_eq_true]
    refine ⟨⟨?_, ?_⟩, ?_⟩
    · simp only [List.contains_iff_mem, Region.ready, List.mem_filter, List.mem_range, Bool.and_eq_true]
      refine ⟨by omega, by simp [Array.getD_eq_getD_getElem?, hk], ?_⟩
      rw [h0]
      simp only [Option.map_some, Option.getD_some]
      rw [← Array.all_toList, List.all_eq_true]
      intro e he
      have h1 := ha e he
      simp only [Bool.or_eq_true] at h1 ⊢
      rcases h1 with h1 | h1
      · exact .inl h1
      · have h2 : e.on < k := by
          have h9 : e.on + 1 ≤ k := by simpa [Nat.blt] using h1
          omega
        have h3 := hs e.on (by omega)
        exact .inr (by simp [Array.getD_eq_getD_getElem?, h3, h2])
    · unfold Region.free
      rw [h0]
      simp only [List.all_eq_true, List.mem_range]
      intro j hj
      rcases Nat.lt_trichotomy j k with hjk | hjk | hjk
      · have h3 := hs j hj
        simp [Array.getD_eq_getD_getElem?, h3, hjk]
      · simp [hjk]
      · have h4 := hl (j - k)
        obtain ⟨m, hm⟩ : ∃ m, j = k + (m + 1) := ⟨j - k - 1, by omega⟩
        subst hm
        have h5 := hl (m + 1)
        simp only [List.getElem?_cons_succ] at h5
        rw [← h5]
        cases hx : l[m]? with
        | none => simp
        | some oj =>
          have h6 := hf oj (List.mem_of_getElem? hx)
          simp only [Bool.or_eq_true] at h6 ⊢
          refine .inr ?_
          rcases h6 with h6 | h6
          · refine .inl ?_
            rw [← Array.any_toList]
            rw [List.any_eq_true] at h6 ⊢
            obtain ⟨e, he, h7⟩ := h6
            exact ⟨e, he, by simpa using h7⟩
          · exact .inr h6
    · refine lexQ_from l (k + 1) _ (fun j => ?_) (by omega) (fun i hi => ?_) hr
      · have h5 := hl (j + 1)
        simp only [List.getElem?_cons_succ] at h5
        rw [h5, show k + (j + 1) = k + 1 + j by omega]
      · rw [Array.getElem?_setIfInBounds]
        have h3 := hs i hi
        by_cases hik : k = i
        · subst hik
          have hlt : k < listed.size := (Array.getElem?_eq_some_iff.1 hk).1
          simp [hlt]
        · rw [if_neg hik, h3]
          congr 1
          rw [decide_eq_decide]
          omega
theorem lexQ_B {md : Region.Mode} {l : List Oper} (h1 : Region.noSelect l.toArray = true) (h2 : lexQ md l.toArray l 0 = true) : Region.lexB md l.toArray = true := by
  unfold Region.lexB
  rw [h1, Bool.true_and]
  have := lexQ_from (md := md) (ops := l.toArray) l 0 (Array.replicate l.toArray.size false) (fun j => by simp) (by simp) (fun i hi => by
    have : i < l.length := by simpa using hi
    simp [Array.getElem?_replicate, this]) h2
  simpa using this
end Go.Proofs.YtdgfipoibnjhaaaDoor

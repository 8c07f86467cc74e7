/-
  Plain facts on edges and anomalies: a further edge makes no fewer; any anomaly makes the last one.
-/
import Derived.Test.YtbglkjmoednapaaDoorAnoms
namespace Go.Proofs.YtbglkjmoednapaaDoor
set_option linter.unusedSimpArgs false
set_option linter.unusedVariables false
set_option maxRecDepth 100000
open Go.RowKit

theorem adj_more {ks ks' : List Int} {L L' : List T3} (hk : ∀ c ∈ ks, c ∈ ks') (hL : ∀ e ∈ L, e ∈ L') {i j : Nat} (h : adj ks L i j) : adj ks' L' i j := by
  obtain ⟨e, h1, h2, h3⟩ := h
  exact ⟨e, hL e h1, hk _ h2, h3⟩
theorem bit_more {ks ks' : List Int} {L L' : List T3} (hk : ∀ c ∈ ks, c ∈ ks') (hL : ∀ e ∈ L, e ∈ L') (h6 : ∀ e ∈ L', ed6 e) {i j : Nat} (h : Bit (rowsOf ks L) i j) : Bit (rowsOf ks' L') i j := by
  have h6L : ∀ e ∈ L, ed6 e := fun e he => h6 e (hL e he)
  exact ⟨h.1, ((rows_spec ks' L' h6).2 i j h.1).2 (adj_more hk hL (((rows_spec ks L h6L).2 i j h.1).1 h.2))⟩
theorem trans_more {r s : Nat → Nat → Prop} (h : ∀ i j, r i j → s i j) {i j : Nat} (ht : Relation.TransGen r i j) : Relation.TransGen s i j := by
  induction ht with
  | single h1 => exact .single (h _ _ h1)
  | tail _ h1 ih => exact .tail ih (h _ _ h1)
theorem arou_more {ks ks' : List Int} {L L' : List T3} (hk : ∀ c ∈ ks, c ∈ ks') (hL : ∀ e ∈ L, e ∈ L') (h6 : ∀ e ∈ L', ed6 e) (h : arou (rowsOf ks L) = true) : arou (rowsOf ks' L') = true := by
  have h6L : ∀ e ∈ L, ed6 e := fun e he => h6 e (hL e he)
  obtain ⟨i, h1, h2⟩ := (arou_iff (rowsOf_low ks L h6L)).1 h
  exact (arou_iff (rowsOf_low ks' L' h6)).2 ⟨i, h1, trans_more (fun i j hb => bit_more hk hL h6 hb) h2⟩
theorem single3_path {L : List T3} (h6 : ∀ e ∈ L, ed6 e) {e : T3} (h : single3 L e = true) : e.c = 3 ∧ (e.b.toNat < 6 → Relation.TransGen (Bit (rowsOf [1, 2] L)) e.b.toNat e.a.toNat) := by
  simp only [single3, Bool.and_eq_true, beq_iff_eq] at h
  exact ⟨h.1, fun hb => (clo_iff (rowsOf_low _ L h6) _ _).1 ⟨hb, h.2⟩⟩
theorem hasA_more {L : List T3} {e : T3} (h6 : ∀ x ∈ L ++ [e], ed6 x) {kind : Int} (h : hasA L kind = true) : hasA (L ++ [e]) kind = true := by
  have hL : ∀ x ∈ L, x ∈ L ++ [e] := fun x hx => List.mem_append_left _ hx
  have h6L : ∀ x ∈ L, ed6 x := fun x hx => h6 x (hL x hx)
  unfold hasA at h ⊢
  split at h
  · rename_i hk
    rw [if_pos hk]
    exact arou_more (fun c h => h) hL h6 h
  · rename_i hk
    rw [if_neg hk]
    split at h
    · rename_i hk2
      rw [if_pos hk2]
      exact arou_more (fun c h => h) hL h6 h
    · rename_i hk2
      rw [if_neg hk2]
      split at h
      · rename_i hk3
        rw [if_pos hk3]
        rw [List.any_eq_true] at h ⊢
        obtain ⟨x, hx, hs⟩ := h
        have h6x := h6L x hx
        unfold ed6 at h6x
        obtain ⟨h3, hp⟩ := single3_path h6L hs
        refine ⟨x, hL x hx, ?_⟩
        have h4 := (clo_iff (rowsOf_low [1, 2] (L ++ [e]) h6) _ _).2 (trans_more (fun i j hb => bit_more (fun c h => h) hL h6 hb) (hp (by omega)))
        simp only [single3, Bool.and_eq_true, beq_iff_eq]
        exact ⟨h3, h4.2⟩
      · rename_i hk3
        rw [if_neg hk3]
        split at h
        · rename_i hk4
          rw [if_pos hk4]
          exact arou_more (fun c h => h) hL h6 h
        · cases h
theorem hasA_any {L : List T3} (h6 : ∀ x ∈ L, ed6 x) {kind : Int} (h : hasA L kind = true) : hasA L 4 = true := by
  have e4 : hasA L 4 = arou (rowsOf [1, 2, 3] L) := by simp [hasA]
  rw [e4]
  unfold hasA at h
  split at h
  · exact arou_more (by simp) (fun x h => h) h6 h
  · split at h
    · exact arou_more (by simp) (fun x h => h) h6 h
    · split at h
      · rw [List.any_eq_true] at h
        obtain ⟨x, hx, hs⟩ := h
        have h6x := h6 x hx
        unfold ed6 at h6x
        obtain ⟨h3, hp⟩ := single3_path h6 hs
        refine (arou_iff (rowsOf_low _ L h6)).2 ⟨x.b.toNat, by omega, ?_⟩
        have t1 := trans_more (s := Bit (rowsOf [1, 2, 3] L)) (fun i j hb => bit_more (by simp) (fun x h => h) h6 hb) (hp (by omega))
        exact .tail t1 ⟨by omega, ((rows_spec [1, 2, 3] L h6).2 _ _ (by omega)).2 ⟨x, hx, by rw [h3]; simp, by omega, by omega⟩⟩
      · split at h
        · exact h
        · cases h
theorem valid_ed6 {many : Int} {L : List T3} (h : edgesValid many L = true) : ∀ x ∈ L, ed6 x := fun x hx => by
  obtain ⟨m, _, hm, _, ha⟩ := edgesValid_iff h
  have := ha x hx
  unfold ed6
  omega
theorem valid_more {many : Int} {L : List T3} (h : edgesValid many L = true) (h2 : 2 ≤ many) (hl : L.length ≤ 100) : edgesValid many (L ++ [⟨0, 1, 1⟩]) = true := by
  obtain ⟨m, rfl, hm, _, ha⟩ := edgesValid_iff h
  simp only [edgesValid, Bool.and_eq_true, decide_eq_true_eq, List.all_append, List.all_cons, List.all_nil, List.length_append, List.length_singleton] at h ⊢
  refine ⟨⟨h.1, ?_, trivial⟩, h.2.1, by omega⟩
  have hw : wrap64 ((m : Int) - 1) = (m : Int) - 1 := by unfold wrap64; omega
  rw [hw]
  simp only [edv, inB]
  simp
  omega
theorem hasV_more {many : Int} {L : List T3} {kind : Int} (h : hasV many L kind = true) (h2 : 2 ≤ many) (hl : L.length ≤ 100) : hasV many (L ++ [⟨0, 1, 1⟩]) kind = true := by
  simp only [hasV, Bool.and_eq_true] at h ⊢
  have hv := valid_more h.1 h2 hl
  exact ⟨hv, hasA_more (valid_ed6 hv) h.2⟩
theorem hasV_any {many : Int} {L : List T3} {kind : Int} (h : hasV many L kind = true) : hasV many L 4 = true := by
  simp only [hasV, Bool.and_eq_true] at h ⊢
  exact ⟨h.1, hasA_any (valid_ed6 h.1) h.2⟩
theorem anoT_at {many : Int} {L : List T3} (n : Nat) : ∀ (i : Nat) v, (anoT many L n)[i]? = some v → hasV many L v = true ∧ v ≤ n ∧ (0 < i → ∃ u, (anoT many L n)[i - 1]? = some u ∧ u < v) := by
  induction n with
  | zero => intro i v h; simp [anoT] at h
  | succ n ih =>
    intro i v hi
    unfold anoT at hi ⊢
    have old : ∀ (ys : List Int), (anoT many L n)[i]? = some v → hasV many L v = true ∧ v ≤ (n + 1 : Nat) ∧ (0 < i → ∃ u, (anoT many L n ++ ys)[i - 1]? = some u ∧ u < v) := fun ys h => by
      obtain ⟨a, b, c⟩ := ih i v h
      have hlt := (List.getElem?_eq_some_iff.1 h).1
      refine ⟨a, by omega, fun h0 => ?_⟩
      obtain ⟨u, d, e⟩ := c h0
      exact ⟨u, by rw [List.getElem?_append_left (by omega)]; exact d, e⟩
    split at hi
    · rename_i hv
      rw [if_pos hv]
      rcases Nat.lt_or_ge i (anoT many L n).length with hlt | hge
      · rw [List.getElem?_append_left hlt] at hi
        exact old _ hi
      · rw [List.getElem?_append_right hge] at hi
        have hz : i - (anoT many L n).length = 0 := by
          cases hx : i - (anoT many L n).length with
          | zero => rfl
          | succ m => rw [hx] at hi; simp at hi
        rw [hz] at hi
        obtain rfl : (n : Int) + 1 = v := by simpa using hi
        refine ⟨hv, by omega, fun h0 => ?_⟩
        obtain ⟨u, hu⟩ : ∃ u, (anoT many L n)[i - 1]? = some u := ⟨_, List.getElem?_eq_getElem (by omega)⟩
        obtain ⟨_, hle, _⟩ := ih _ _ hu
        exact ⟨u, by rw [List.getElem?_append_left (by omega)]; exact hu, by omega⟩
    · rename_i hv
      rw [if_neg hv]
      have := old [] hi
      simpa using this
theorem anoV_last {many : Int} {L : List T3} : anoV many L = [] ∨ (anoV many L)[(anoV many L).length - 1]? = some 4 := by
  cases h4 : hasV many L 4 with
  | true =>
    right
    have e : anoV many L = anoT many L 3 ++ [4] := by
      show (if hasV many L ((3 : Nat) + 1) = true then _ else _) = _
      rw [if_pos (by simpa using h4)]
      rfl
    rw [e]
    simp
  | false =>
    left
    cases hq : anoV many L with
    | nil => rfl
    | cons v vs =>
      have h1 := (anoT_at (many := many) (L := L) 4 0 v (by
        have : anoT many L 4 = v :: vs := hq
        rw [this]; rfl)).1
      rw [hasV_any h1] at h4
      cases h4
end Go.Proofs.YtbglkjmoednapaaDoor

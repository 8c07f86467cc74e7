/-
  Plain facts: installed values and numbers of committed transactions differ; the same numbers in another order.
-/
import Derived.Test.YtdgfipoibnjhaaaGWrF27
import Derived.Test.YtdgfipoibnjhaaaLastV
import Derived.Test.YtdgfipoibnjhaaaInst
namespace Go.Proofs.Ytdgfipoibnjhaaa
set_option linter.unusedSimpArgs false
set_option linter.unusedVariables false
set_option maxRecDepth 100000

theorem lastW_mem {ops : List T3} {key : Int} {n : Nat} {o : T3} (h : lastW ops key n = some o) : o ∈ ops := by
  induction n with
  | zero => cases h
  | succ n ih =>
    unfold lastW at h
    split at h
    · rename_i x hx
      split at h
      · cases h
        exact List.mem_of_getElem? hx
      · exact ih h
    · exact ih h
theorem lws_ops {ops : List T3} {n : Nat} {o : T3} (h : o ∈ lwsTo ops n) : o ∈ ops := lastW_mem (lws_mem h).2
theorem lws_below {ops : List T3} {n : Nat} {o : T3} (h : o ∈ lwsTo ops n) : o.b < n := by
  induction n with
  | zero => cases h
  | succ n ih =>
    rcases List.mem_append.1 h with h | h
    · have := ih h
      omega
    · rw [Option.mem_toList] at h
      have := (lastW_ok h).2
      omega
theorem kvs_none {key : Int} {l : List T3} (h : ∀ o ∈ l, o.b ≠ key) : kvs key l = [] := by
  induction l with
  | nil => rfl
  | cons o l ih =>
    simp only [kvs]
    rw [if_neg (h o (by simp)), ih (fun o ho => h o (by simp [ho]))]
theorem kvs_lws (ops : List T3) (key : Int) (n : Nat) : kvs key (lwsTo ops n) = [] ∨ ∃ v, kvs key (lwsTo ops n) = [v] ∧ (⟨2, key, v⟩ : T3) ∈ lwsTo ops n := by
  induction n with
  | zero => left; rfl
  | succ n ih =>
    unfold lwsTo
    rw [kvs_append]
    cases hq : lastW ops n ops.length with
    | none =>
      rcases ih with h1 | ⟨v, h1, h2⟩
      · left
        simp [h1, kvs]
      · right
        exact ⟨v, by simp [h1, kvs], List.mem_append_left _ h2⟩
    | some o =>
      obtain ⟨a1, a2⟩ := lastW_ok hq
      by_cases hk : o.b = key
      · have h0 : kvs key (lwsTo ops n) = [] := kvs_none (fun x hx => by have := lws_below hx; omega)
        right
        refine ⟨o.c, by rw [h0]; simp [kvs, hk], List.mem_append_right _ ?_⟩
        have e : o = ⟨2, key, o.c⟩ := by cases o; simp_all
        rw [← e]
        simp
      · have h0 : kvs key (some o).toList = [] := by simp [kvs, hk]
        rw [h0, List.append_nil]
        rcases ih with h1 | ⟨v, h1, h2⟩
        · exact .inl h1
        · exact .inr ⟨v, h1, List.mem_append_left _ h2⟩
/-- an installed value has its writer -/
def InstAt (h : List TxnT) (key v : Int) (n k : Nat) (t : TxnT) : Prop := k < n ∧ wrN h key v = k ∧ h[k]? = some t ∧ t.done = true ∧ (⟨2, key, v⟩ : T3) ∈ lwsTo t.ops 3
theorem inT_at {h : List TxnT} {key : Int} (hv : histv h = true) (n : Nat) : (∀ (i : Nat) v, (inT h key n)[i]? = some v → ∃ k t, InstAt h key v n k t) ∧ ∀ (i : Nat) u v, (inT h key n)[i]? = some u → (inT h key n)[i + 1]? = some v → wrN h key u < wrN h key v := by
  induction n with
  | zero => exact ⟨fun i v h => by simp [inT] at h, fun i u v h => by simp [inT] at h⟩
  | succ n ih =>
    obtain ⟨i1, i2⟩ := ih
    have lift : ∀ (i : Nat) v, (inT h key n)[i]? = some v → ∃ k t, InstAt h key v (n + 1) k t := fun i v hi => by
      obtain ⟨k, t, a, b⟩ := i1 i v hi
      exact ⟨k, t, by omega, b⟩
    cases hk : h[n]? with
    | none =>
      have e : inT h key (n + 1) = inT h key n := by
        conv => lhs; unfold inT
        rw [hk]
      rw [e]
      exact ⟨lift, i2⟩
    | some t =>
      rw [inT_succ hk]
      by_cases hd : t.done = true
      · rw [if_pos hd]
        rcases kvs_lws t.ops key 3 with h0 | ⟨v, h0, hm⟩
        · rw [h0, List.append_nil]
          exact ⟨lift, i2⟩
        · rw [h0]
          have hw := wrN_of hv hk (lws_ops hm)
          have new : InstAt h key v (n + 1) n t := ⟨by omega, hw, hk, hd, hm⟩
          refine ⟨fun i u hi => ?_, fun i u u' hi hj => ?_⟩
          · rcases Nat.lt_or_ge i (inT h key n).length with hlt | hge
            · rw [List.getElem?_append_left hlt] at hi
              exact lift i u hi
            · rw [List.getElem?_append_right hge] at hi
              have : u = v := by
                cases hx : i - (inT h key n).length with
                | zero => rw [hx] at hi; simpa using hi.symm
                | succ m => rw [hx] at hi; simp at hi
              subst this
              exact ⟨n, t, new⟩
          · rcases Nat.lt_or_ge (i + 1) (inT h key n).length with hlt | hge
            · rw [List.getElem?_append_left (by omega)] at hi
              rw [List.getElem?_append_left hlt] at hj
              exact i2 i u u' hi hj
            · rw [List.getElem?_append_right hge] at hj
              have hz : i + 1 - (inT h key n).length = 0 := by
                cases hx : i + 1 - (inT h key n).length with
                | zero => rfl
                | succ m => rw [hx] at hj; simp at hj
              rw [hz] at hj
              obtain rfl : v = u' := by simpa using hj
              rw [List.getElem?_append_left (by omega)] at hi
              obtain ⟨k, t2, a, b, _⟩ := i1 i u hi
              rw [b, hw]
              omega
      · rw [if_neg hd]
        exact ⟨lift, i2⟩
theorem inT_nodup {h : List TxnT} {key : Int} (hv : histv h = true) (n : Nat) : (inT h key n).Nodup := by
  induction n with
  | zero => exact List.nodup_nil
  | succ n ih =>
    cases hk : h[n]? with
    | none =>
      have e : inT h key (n + 1) = inT h key n := by
        conv => lhs; unfold inT
        rw [hk]
      rw [e]
      exact ih
    | some t =>
      rw [inT_succ hk]
      split
      · rcases kvs_lws t.ops key 3 with h0 | ⟨v, h0, hm⟩
        · rw [h0, List.append_nil]
          exact ih
        · rw [h0]
          have hw := wrN_of hv hk (lws_ops hm)
          rw [List.nodup_append]
          refine ⟨ih, by simp, fun u hu u' hu' e => ?_⟩
          obtain rfl := List.mem_singleton.1 hu'
          subst e
          obtain ⟨i, hi⟩ := List.getElem?_of_mem hu
          obtain ⟨k, t2, a, b, _⟩ := (inT_at hv n).1 i u hi
          rw [hw] at b
          omega
      · exact ih
theorem instd_nodup (h : List TxnT) (key : Int) : (instd h key).Nodup := by
  unfold instd
  split
  · rename_i hc
    exact inT_nodup hc.1 _
  · exact List.nodup_nil
/-- the same different numbers -/
def l7v (a b : List Int) : Bool := b.all (fun x => decide (a.count x = 1)) && decide (a.length = b.length)
theorem perm_of_sub : ∀ (b a : List Int), b.Nodup → (∀ x ∈ b, x ∈ a) → a.length = b.length → a.Perm b := by
  intro b
  induction b with
  | nil =>
    intro a _ _ hl
    rw [List.eq_nil_of_length_eq_zero hl]
  | cons y b ih =>
    intro a hn hs hl
    have hy := hs y (by simp)
    have h1 := List.perm_cons_erase hy
    have hn' := List.nodup_cons.1 hn
    refine h1.trans (List.Perm.cons y (ih _ hn'.2 (fun x hx => ?_) ?_))
    · exact (List.mem_erase_of_ne (fun e => hn'.1 (by rw [← e]; exact hx))).2 (hs x (by simp [hx]))
    · rw [List.length_erase_of_mem hy, hl]
      rfl
theorem l7v_perm {a b : List Int} (hb : b.Nodup) : l7v a b = true ↔ a.Perm b := by
  unfold l7v
  rw [Bool.and_eq_true, List.all_eq_true, decide_eq_true_eq]
  constructor
  · rintro ⟨h1, h2⟩
    refine perm_of_sub b a hb (fun x hx => ?_) h2
    have := h1 x hx
    rw [decide_eq_true_eq] at this
    exact List.count_pos_iff.1 (by omega)
  · intro h
    refine ⟨fun x hx => ?_, h.length_eq⟩
    rw [decide_eq_true_eq, h.count_eq, hb.count, if_pos hx]
end Go.Proofs.Ytdgfipoibnjhaaa

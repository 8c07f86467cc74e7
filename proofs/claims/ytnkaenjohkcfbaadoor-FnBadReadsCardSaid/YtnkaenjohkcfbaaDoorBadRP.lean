/-
  Plain facts: places of bad reads are reads of committed transactions, of one kind.
-/
import Derived.Test.YtnkaenjohkcfbaaDoorBadD
namespace Go.Proofs.YtnkaenjohkcfbaaDoor
set_option linter.unusedSimpArgs false
set_option linter.unusedVariables false
set_option maxRecDepth 100000

theorem oeT_memR {who : Int} {ops : List T3} {n : Nat} {p : T2} (hp : p ∈ oeT who ops n) : ∃ (m : Nat) (o : T3), p = ⟨who, m⟩ ∧ ops[m]? = some o ∧ o.a = 1 := by
  induction n with
  | zero => cases hp
  | succ n ih =>
    cases hn : ops[n]? with
    | none =>
      have e : oeT who ops (n + 1) = oeT who ops n := by
        conv => lhs; unfold oeT
        rw [hn]
      rw [e] at hp
      exact ih hp
    | some o =>
      by_cases hc : o.a = 1 ∧ 0 ≤ before ops o.b n ∧ before ops o.b n ≠ o.c
      · rw [oeT_hit hn hc] at hp
        rcases List.mem_append.1 hp with hp | hp
        · exact ih hp
        · exact ⟨n, o, by simpa using hp, hn, hc.1⟩
      · rw [oeT_miss hn hc] at hp
        exact ih hp
theorem brT_memR {h : List TxnT} {kind : Int} {n : Nat} {ops : List T3} {j : Nat} {p : T2} (hp : p ∈ brT h kind n ops j) : ∃ (m : Nat) (o : T3), p = ⟨n, m⟩ ∧ ops[m]? = some o ∧ k6 h n o = kind := by
  induction j with
  | zero => cases hp
  | succ j ih =>
    cases hn : ops[j]? with
    | none =>
      have e : brT h kind n ops (j + 1) = brT h kind n ops j := by
        conv => lhs; unfold brT
        rw [hn]
      rw [e] at hp
      exact ih hp
    | some o =>
      by_cases hc : k6 h n o = kind
      · rw [brT_hit hn hc] at hp
        rcases List.mem_append.1 hp with hp | hp
        · exact ih hp
        · exact ⟨j, o, by simpa using hp, hn, hc⟩
      · rw [brT_miss hn hc] at hp
        exact ih hp
theorem bdH_memR {h : List TxnT} {kind : Int} {n : Nat} {p : T2} (hp : p ∈ bdH h kind n) : ∃ (k : Nat) (t : TxnT), k < n ∧ h[k]? = some t ∧ t.done = true ∧ p ∈ bdT h kind k t.ops := by
  induction n with
  | zero => cases hp
  | succ n ih =>
    have up : (∃ (k : Nat) (t : TxnT), k < n ∧ h[k]? = some t ∧ t.done = true ∧ p ∈ bdT h kind k t.ops) → ∃ (k : Nat) (t : TxnT), k < n + 1 ∧ h[k]? = some t ∧ t.done = true ∧ p ∈ bdT h kind k t.ops := fun ⟨k, t, a, b⟩ => ⟨k, t, by omega, b⟩
    cases hn : h[n]? with
    | none =>
      have e : bdH h kind (n + 1) = bdH h kind n := by
        conv => lhs; unfold bdH
        rw [hn]
      rw [e] at hp
      exact up (ih hp)
    | some t =>
      rw [bdH_succ hn] at hp
      split at hp
      · rename_i hd
        rcases List.mem_append.1 hp with hp | hp
        · exact up (ih hp)
        · exact ⟨n, t, by omega, hn, hd, hp⟩
      · exact up (ih hp)
theorem k6_read {h : List TxnT} {n : Int} {o : T3} (hk : k6 h n o ≠ 0) : o.a = 1 := by
  by_cases ha : o.a = 1
  · exact ha
  · exact absurd (k6_zero (.inl ha)) hk
/-- a place of a bad read -/
theorem bad_at {h : List TxnT} {kind : Int} {p : T2} (hp : p ∈ bads h kind) : ∃ (k m : Nat) (t : TxnT) (o : T3), p = ⟨k, m⟩ ∧ h[k]? = some t ∧ t.done = true ∧ t.ops[m]? = some o ∧ o.a = 1 ∧ (kind ≠ 4 → k6 h k o = kind) := by
  unfold bads at hp
  split at hp
  · rename_i hc
    have hk := inB_iff.1 hc.2
    obtain ⟨k, t, _, hkt, hd, hq⟩ := bdH_memR hp
    unfold bdT at hq
    split at hq
    · rename_i h4
      obtain ⟨m, o, e, ho, ha⟩ := oeT_memR hq
      exact ⟨k, m, t, o, e, hkt, hd, ho, ha, fun h => absurd h4 h⟩
    · obtain ⟨m, o, e, ho, hk6⟩ := brT_memR hq
      exact ⟨k, m, t, o, e, hkt, hd, ho, k6_read (by rw [hk6]; omega), fun _ => hk6⟩
  · cases hp
theorem bad_apart {h : List TxnT} {kind q : Int} {p : T2} (hne : q ≠ kind) (h4 : kind ≠ 4) (hq4 : q ≠ 4) (hp : p ∈ bads h kind) (hq : p ∈ bads h q) : False := by
  obtain ⟨k, m, t, o, rfl, hkt, _, ho, _, h1⟩ := bad_at hp
  obtain ⟨k', m', t', o', e, hkt', _, ho', _, h2⟩ := bad_at hq
  simp only [T2.mk.injEq] at e
  have e1 : k = k' := by omega
  have e2 : m = m' := by omega
  subst e1
  subst e2
  rw [hkt] at hkt'
  cases hkt'
  rw [ho] at ho'
  cases ho'
  have a1 := h1 h4
  have a2 := h2 hq4
  omega
end Go.Proofs.YtnkaenjohkcfbaaDoor

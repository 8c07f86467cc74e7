/-
  Plain facts: a right serial order has all transactions; without reads every order of them is right.
-/
import Derived.Test.YtdgfipoibnjhaaaDoorSerP
namespace Go.Proofs.YtdgfipoibnjhaaaDoor
set_option linter.unusedSimpArgs false
set_option linter.unusedVariables false
set_option maxRecDepth 100000
open Go.RowKit

theorem ser_parts {h : List TxnT} {ns : List Int} (hs : serV h ns = true) : histv h = true ∧ l7v ns (dnT h h.length) = true ∧ (runH h ns).isSome = true := by
  simp only [serV, Bool.and_eq_true] at hs
  exact hs
theorem ser_init {h : List TxnT} {ns : List Int} (hs : serV h ns = true) (hn : 0 < ns.length) : serV h (ns.take (ns.length - 1)) = false := by
  obtain ⟨_, h2, _⟩ := ser_parts hs
  have h3 : ns.length = (dnT h h.length).length := by
    unfold l7v at h2
    simp only [Bool.and_eq_true, decide_eq_true_eq] at h2
    exact h2.2
  have h4 : l7v (ns.take (ns.length - 1)) (dnT h h.length) = false := by
    unfold l7v
    rw [decide_eq_false (by rw [List.length_take]; omega), Bool.and_false]
  unfold serV
  rw [h4]
  simp
theorem lwH_at {h : List TxnT} (k : Nat) : (lwH h)[k]? = (h[k]?).map lwT := by
  unfold lwH
  rw [List.getElem?_map]
theorem dnT_lw (h : List TxnT) : ∀ n, dnT (lwH h) n = dnT h n
  | 0 => rfl
  | n + 1 => by
    unfold dnT
    rw [lwH_at, dnT_lw h n]
    cases h[n]? with
    | none => rfl
    | some t => rfl
theorem runO_w : ∀ (ops : List T3) (f : Nat → Int), (∀ o ∈ ops, o.a = 2) → (runO f ops).isSome = true
  | [], _, _ => rfl
  | o :: ops, f, h => by
    have h1 : stepS f o = some (updS f o.b.toNat o.c) := by
      unfold stepS
      rw [if_pos (h o (by simp))]
    have h2 := runO_w ops (updS f o.b.toNat o.c) (fun x hx => h x (by simp [hx]))
    unfold runO at h2 ⊢
    rw [List.foldl_cons, Option.bind_some, h1]
    exact h2
theorem runH_lw (h : List TxnT) : ∀ (ns : List Int) (f : Nat → Int), (∀ n ∈ ns, ∃ t, h[n.toNat]? = some t) → (ns.foldl (fun a n => a.bind fun f => runT (lwH h) f n) (some f)).isSome = true
  | [], _, _ => rfl
  | n :: ns, f, hm => by
    obtain ⟨t, ht⟩ := hm n (by simp)
    have h1 : runT (lwH h) f n = runO f (lwT t).ops := by
      unfold runT
      rw [lwH_at, ht]
      rfl
    obtain ⟨g, hg⟩ := Option.isSome_iff_exists.1 (runO_w (lwT t).ops f (fun o ho => lwT_w ho))
    rw [List.foldl_cons, Option.bind_some, h1, hg]
    exact runH_lw h ns g (fun x hx => hm x (by simp [hx]))
theorem ser_lw {h : List TxnT} {ns : List Int} (hs : serV h ns = true) : serV (lwH h) ns = true := by
  obtain ⟨h1, h2, _⟩ := ser_parts hs
  have e : (lwH h).length = h.length := by simp [lwH]
  unfold serV
  rw [lwH_valid h1, e, dnT_lw, h2]
  simp only [Bool.true_and]
  refine runH_lw h ns _ (fun n hn => ?_)
  obtain ⟨k, hk, e⟩ := List.mem_iff_getElem.1 hn
  obtain ⟨m, t, rfl, _, ht, _⟩ := ser_mem h2 (List.getElem?_eq_some_iff.2 ⟨hk, e⟩)
  exact ⟨t, by rw [Int.toNat_natCast]; exact ht⟩
theorem ser_reads {h : List TxnT} {ns : List Int} (hs : serV h ns = true) : rrI h = true := by
  obtain ⟨h1, h2, h3⟩ := ser_parts hs
  exact ser_rr h1 h2 h3
end Go.Proofs.YtdgfipoibnjhaaaDoor

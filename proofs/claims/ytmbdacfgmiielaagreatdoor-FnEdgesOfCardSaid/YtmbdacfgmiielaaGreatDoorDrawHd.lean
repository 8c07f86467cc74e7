/-
  Contracts of drawn histories and transactions.
-/
import Derived.Test.YtmbdacfgmiielaaGreatDoorDrawHi
import Derived.Test.YtmbdacfgmiielaaGreatDoorGOrdF20
import Derived.Laws.AppendOwnNone
namespace Go.Proofs.YtmbdacfgmiielaaGreatDoor
set_option linter.unusedSimpArgs false
set_option linter.unusedVariables false
set_option maxRecDepth 100000
open Go.RowKit

/-- what a drawn history is -/
def SmallH (h : List TxnT) : Prop := h.length ≤ 8 ∧ ∀ t ∈ h, SmallI t.sess ∧ t.ops.length ≤ 7 ∧ ∀ o ∈ t.ops, SmallOp o
theorem total_small {h : List TxnT} (ho : ∀ t ∈ h, t.ops.length ≤ 7) : total h ≤ 7 * h.length := by
  induction h with
  | nil => simp [total]
  | cons t ts ih =>
    have h1 := ho t (by simp)
    have h2 := ih (fun t ht => ho t (by simp [ht]))
    simp only [total, List.map_cons, List.sum_cons, List.length_cons] at h2 ⊢
    omega
theorem SmallH.small {h : List TxnT} (hs : SmallH h) : Small h := by
  have := total_small (fun t ht => (hs.2 t ht).2.1)
  have := hs.1
  unfold Small
  omega
/-- a drawn history in the reader's words; old memory is as it was -/
def DrewH (w : World) (e : Ending) (w' : World) : Prop := ∃ (ps : List PT) (lim : Nat) (vo : Value), e = .returned vo ∧ OwnT w' w.heap.size lim vo ps ∧ ps.length ≤ 8 ∧ (∀ p ∈ ps, p.small) ∧ Ext w w'
theorem small_map {ps : List PT} (h1 : ps.length ≤ 8) (h2 : ∀ p ∈ ps, p.small) : SmallH (ps.map PT.txn) := ⟨by simpa using h1, fun t ht => by
  obtain ⟨p, hp, rfl⟩ := List.mem_map.1 ht
  exact h2 p hp⟩
theorem OwnT.read {w : World} {B lim : Nat} {v : Value} {ps : List PT} (h : OwnT w B lim v ps) : ∃ A c, v = .slice A (ps.map PT.txn).length c ∧ (ps.map PT.txn).length ≤ c ∧ Txns (fun b => B ≤ b) w A (ps.map PT.txn) := by
  obtain ⟨A, c, hv, hc, hT, _⟩ := h.txns
  have hl : (ps.map PT.txn).length = ps.length := by simp
  exact ⟨A, c, by rw [hl]; exact hv, by omega, hT⟩
theorem DrewH.read {w w' : World} {e : Ending} (h : DrewH w e w') : ∃ (h : List TxnT) (A : Option Addr) (c : Nat), e = .returned (.slice A h.length c) ∧ h.length ≤ c ∧ Txns (fun b => w.heap.size ≤ b) w' A h ∧ SmallH h ∧ Ext w w' := by
  obtain ⟨ps, lim, vo, rfl, hT, hl, hs, hE⟩ := h
  obtain ⟨A, c, rfl, hc, hx⟩ := hT.read
  exact ⟨_, A, c, rfl, hc, hx, small_map hl hs, hE⟩
theorem txns_pick {B r : Nat} {W W' : World} {A : Option Addr} {h : List TxnT} (hx : Txns (fun b => B ≤ b) W A h) (hG : W.grownBy W' (some r)) (hr : r < B) : Txns (fun b => B ≤ b) W' A h := by
  have hk : ∀ p : Addr, B ≤ p.block → p.block < W.heap.size → W'.cell? p = W.cell? p := fun p hp hlt => World.cell?_of_block (hG.block p.block hlt (fun e => by have := Option.some.inj e; omega))
  exact SlAt.keep hx (kept_txn hG.size hk) hG.size hk
theorem txns_low {B B' : Nat} {W : World} {A : Option Addr} {h : List TxnT} (hx : Txns (fun b => B ≤ b) W A h) (hb : B' ≤ B) : Txns (fun b => B' ≤ b) W A h :=
  SlAt.mono hx (fun _ h _ => Nat.le_trans hb h) (mono_txn (fun _ h _ => Nat.le_trans hb h))
end Go.Proofs.YtmbdacfgmiielaaGreatDoor

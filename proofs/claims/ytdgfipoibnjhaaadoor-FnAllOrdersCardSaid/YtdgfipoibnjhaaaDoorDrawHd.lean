/-
  Contracts of drawn histories and transactions.
-/
import Derived.Test.YtdgfipoibnjhaaaDoorDrawHi
import Derived.Test.YtdgfipoibnjhaaaDoorGAlive15
import Derived.Laws.AppendOwnNone
namespace Go.Proofs.YtdgfipoibnjhaaaDoor
set_option linter.unusedSimpArgs false
set_option linter.unusedVariables false
set_option maxRecDepth 100000
open Go.RowKit

/-- what a drawn history is -/
def SmallH (h : List TxnT) : Prop := h.length ≤ 8 ∧ ∀ t ∈ h, SmallI t.sess ∧ t.ops.length ≤ 7 ∧ ∀ o ∈ t.ops, SmallOp o
theorem total_small {h : List TxnT} (ho : ∀ t ∈ h, t.ops.length ≤ 7) : total h ≤ 7 * h.length := by
  induction h with
  | nil => simp [total]
  | cons t ts ih =>
    have h1 := ho t (by simp)
    have h2 := ih (fun t ht => ho t (by simp [ht]))
    simp only [total, List.map_cons, List.sum_cons, List.length_cons] at h2 ⊢
    omega
theorem SmallH.small {h : List TxnT} (hs : SmallH h) : Small h := by
  have := total_small (fun t ht => (hs.2 t ht).2.1)
  have := hs.1
  unfold Small
  omega
/-- a drawn history in the reader's words; old memory is as it was -/
def DrewH (w : World) (e : Ending) (w' : World) : Prop := ∃ (ps : List PT) (lim : Nat) (vo : Value), e = .returned vo ∧ OwnT w' w.heap.size lim vo ps ∧ ps.length ≤ 8 ∧ (∀ p ∈ ps, p.small) ∧ Ext w w'
theorem small_map {ps : List PT} (h1 : ps.length ≤ 8) (h2 : ∀ p ∈ ps, p.small) : SmallH (ps.map PT.txn) := ⟨by simpa using h1, fun t ht => by
  obtain ⟨p, hp, rfl⟩ := List.mem_map.1 ht
  exact h2 p hp⟩
theorem OwnT.read {w : World} {B lim : Nat} {v : Value} {ps : List PT} (h : OwnT w B lim v ps) : ∃ A c, v = .slice A (ps.map PT.txn).length c ∧ (ps.map PT.txn).length ≤ c ∧ Txns (fun b => B ≤ b) w A (ps.map PT.txn) := by
  obtain ⟨A, c, hv, hc, hT, _⟩ := h.txns
  have hl : (ps.map PT.txn).length = ps.length := by simp
  exact ⟨A, c, by rw [hl]; exact hv, by omega, hT⟩
theorem DrawFirstOrders_c (xs : List Int) (A : Option Addr) (c : Nat) (w : World) (h : Byts Any w A xs) (hv : ∀ x ∈ xs, 0 ≤ x ∧ x ≤ 255) (hc : xs.length ≤ c) :
    Calls Tryd.prog 22 #[.slice A xs.length c] w (DrewH w) := by
  go_enter Tryd.func22, Tryd.ntmps22
  go_wp2_with (fail)
  go_at_call 35
  refine (l20Open_c xs A c _ (h.ext (by (repeat' (first | (with_reducible exact Below.refl _ _) | (with_reducible refine Below.mono (by assumption) ?_) | (with_reducible refine Below.trans ?_ (Below.mono (by assumption) ?_)) | (with_reducible refine Below.alloc ?_ ?_ _) | (with_reducible refine Below.drew ?_) | (with_reducible refine below_drewN ?_ _) | (with_reducible refine Below.setCell ?_ ?_ _) | (simp only [World.size_alloc, World.size_setCell, World.size_drew, size_drewN]; omega) | omega)))) hv hc).mono ?_
  rintro e w1 ⟨r, rfl, hr, hR, hb⟩
  obtain ⟨hc, hf, hz, hs⟩ := bcell hb
  (try simp only [World.size_alloc, World.size_setCell, World.size_drew, size_drewN] at hs); (first | have l0 := Nat.lt_of_lt_of_le l0 (show _ ≤ w1.heap.size by omega) | have l0 : w.heap.size < w1.heap.size := (by omega) | skip); (try have l0e := Nat.le_of_lt l0); (try have l0f := Nat.le_add_right_of_le (k := 1) l0e); (try have l1 := Nat.lt_of_lt_of_le l1 (show _ ≤ w1.heap.size by omega)); (try have l1e := Nat.le_of_lt l1); (try have l1f := Nat.le_add_right_of_le (k := 1) l1e); (try have l2 := Nat.lt_of_lt_of_le l2 (show _ ≤ w1.heap.size by omega)); (try have l2e := Nat.le_of_lt l2); (try have l2f := Nat.le_add_right_of_le (k := 1) l2e); (try have l3 := Nat.lt_of_lt_of_le l3 (show _ ≤ w1.heap.size by omega)); (try have l3e := Nat.le_of_lt l3); (try have l3f := Nat.le_add_right_of_le (k := 1) l3e)
  have hb_1 := hb
  go_wp2_with (fail)
  go_at_call 34
  refine (l20History_c r 0 5 9 _ hR (by omega) (by omega) (by omega) (by omega)).mono ?_
  rintro e w2 ⟨ps, lim, vo, rfl, hT, hl, hps, hR2, hG⟩
  obtain ⟨hc, hf, hz, hs⟩ := gcell hG
  (try simp only [World.size_alloc, World.size_setCell, World.size_drew, size_drewN] at hs); (first | have l0 := Nat.lt_of_lt_of_le l0 (show _ ≤ w2.heap.size by omega) | have l0 : w.heap.size < w2.heap.size := (by omega) | skip); (try have l0e := Nat.le_of_lt l0); (try have l0f := Nat.le_add_right_of_le (k := 1) l0e); (try have l1 := Nat.lt_of_lt_of_le l1 (show _ ≤ w2.heap.size by omega)); (try have l1e := Nat.le_of_lt l1); (try have l1f := Nat.le_add_right_of_le (k := 1) l1e); (try have l2 := Nat.lt_of_lt_of_le l2 (show _ ≤ w2.heap.size by omega)); (try have l2e := Nat.le_of_lt l2); (try have l2f := Nat.le_add_right_of_le (k := 1) l2e); (try have l3 := Nat.lt_of_lt_of_le l3 (show _ ≤ w2.heap.size by omega)); (try have l3e := Nat.le_of_lt l3); (try have l3f := Nat.le_add_right_of_le (k := 1) l3e)
  go_wp2
  go_ret
  exact ⟨ps, lim, vo, rfl, hT.below hb_1.size, hl, hps, grown_new hb_1 hr hG⟩
theorem DrawAllOrders_c (xs : List Int) (A : Option Addr) (c : Nat) (w : World) (h : Byts Any w A xs) (hv : ∀ x ∈ xs, 0 ≤ x ∧ x ≤ 255) (hc : xs.length ≤ c) :
    Calls Tryd.prog 28 #[.slice A xs.length c] w (DrewH w) := by
  go_enter Tryd.func28, Tryd.ntmps28
  go_wp2_with (fail)
  go_at_call 35
  refine (l20Open_c xs A c _ (h.ext (by (repeat' (first | (with_reducible exact Below.refl _ _) | (with_reducible refine Below.mono (by assumption) ?_) | (with_reducible refine Below.trans ?_ (Below.mono (by assumption) ?_)) | (with_reducible refine Below.alloc ?_ ?_ _) | (with_reducible refine Below.drew ?_) | (with_reducible refine below_drewN ?_ _) | (with_reducible refine Below.setCell ?_ ?_ _) | (simp only [World.size_alloc, World.size_setCell, World.size_drew, size_drewN]; omega) | omega)))) hv hc).mono ?_
  rintro e w1 ⟨r, rfl, hr, hR, hb⟩
  obtain ⟨hc, hf, hz, hs⟩ := bcell hb
  (try simp only [World.size_alloc, World.size_setCell, World.size_drew, size_drewN] at hs); (first | have l0 := Nat.lt_of_lt_of_le l0 (show _ ≤ w1.heap.size by omega) | have l0 : w.heap.size < w1.heap.size := (by omega) | skip); (try have l0e := Nat.le_of_lt l0); (try have l0f := Nat.le_add_right_of_le (k := 1) l0e); (try have l1 := Nat.lt_of_lt_of_le l1 (show _ ≤ w1.heap.size by omega)); (try have l1e := Nat.le_of_lt l1); (try have l1f := Nat.le_add_right_of_le (k := 1) l1e); (try have l2 := Nat.lt_of_lt_of_le l2 (show _ ≤ w1.heap.size by omega)); (try have l2e := Nat.le_of_lt l2); (try have l2f := Nat.le_add_right_of_le (k := 1) l2e); (try have l3 := Nat.lt_of_lt_of_le l3 (show _ ≤ w1.heap.size by omega)); (try have l3e := Nat.le_of_lt l3); (try have l3f := Nat.le_add_right_of_le (k := 1) l3e)
  have hb_1 := hb
  go_wp2_with (fail)
  go_at_call 34
  refine (l20History_c r 0 4 9 _ hR (by omega) (by omega) (by omega) (by omega)).mono ?_
  rintro e w2 ⟨ps, lim, vo, rfl, hT, hl, hps, hR2, hG⟩
  obtain ⟨hc, hf, hz, hs⟩ := gcell hG
  (try simp only [World.size_alloc, World.size_setCell, World.size_drew, size_drewN] at hs); (first | have l0 := Nat.lt_of_lt_of_le l0 (show _ ≤ w2.heap.size by omega) | have l0 : w.heap.size < w2.heap.size := (by omega) | skip); (try have l0e := Nat.le_of_lt l0); (try have l0f := Nat.le_add_right_of_le (k := 1) l0e); (try have l1 := Nat.lt_of_lt_of_le l1 (show _ ≤ w2.heap.size by omega)); (try have l1e := Nat.le_of_lt l1); (try have l1f := Nat.le_add_right_of_le (k := 1) l1e); (try have l2 := Nat.lt_of_lt_of_le l2 (show _ ≤ w2.heap.size by omega)); (try have l2e := Nat.le_of_lt l2); (try have l2f := Nat.le_add_right_of_le (k := 1) l2e); (try have l3 := Nat.lt_of_lt_of_le l3 (show _ ≤ w2.heap.size by omega)); (try have l3e := Nat.le_of_lt l3); (try have l3f := Nat.le_add_right_of_le (k := 1) l3e)
  go_wp2
  go_ret
  exact ⟨ps, lim, vo, rfl, hT.below hb_1.size, hl, hps, grown_new hb_1 hr hG⟩
theorem DrewH.read {w w' : World} {e : Ending} (h : DrewH w e w') : ∃ (h : List TxnT) (A : Option Addr) (c : Nat), e = .returned (.slice A h.length c) ∧ h.length ≤ c ∧ Txns (fun b => w.heap.size ≤ b) w' A h ∧ SmallH h ∧ Ext w w' := by
  obtain ⟨ps, lim, vo, rfl, hT, hl, hs, hE⟩ := h
  obtain ⟨A, c, rfl, hc, hx⟩ := hT.read
  exact ⟨_, A, c, rfl, hc, hx, small_map hl hs, hE⟩
end Go.Proofs.YtdgfipoibnjhaaaDoor

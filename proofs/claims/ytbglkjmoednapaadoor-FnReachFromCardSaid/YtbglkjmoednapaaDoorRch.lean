/-
  Contracts of ReachFrom, the reference's and the program's.
-/
import Derived.Test.YtbglkjmoednapaaDoorAnom
import Derived.Shelf.Spec.TrailingZeros
namespace Go.Proofs.YtbglkjmoednapaaDoor
set_option linter.unusedSimpArgs false
set_option linter.unusedVariables false
set_option maxRecDepth 100000
open Go.RowKit Go.Shelf

/-- whether edges lead from a number to another one -/
def rchP (m : Nat) (L : List T3) (fr : Int) (k : Nat) : Bool := L.any fun e => decide (e.a = fr) && decide (0 ≤ farT L k m e.b.toNat)
/-- the numbers below k that edges lead to -/
def rchT (m : Nat) (L : List T3) (fr : Int) (k : Nat) : List Int := ((List.range k).filter (rchP m L fr)).map Int.ofNat
theorem rchT_succ (m : Nat) (L : List T3) (fr : Int) (k : Nat) : rchT m L fr (k + 1) = if rchP m L fr k = true then rchT m L fr k ++ [(k : Int)] else rchT m L fr k := by
  unfold rchT
  rw [List.range_succ, List.filter_append]
  simp only [List.filter_cons, List.filter_nil]
  split <;> simp
theorem rchT_len (m : Nat) (L : List T3) (fr : Int) (k : Nat) : (rchT m L fr k).length ≤ k := by
  unfold rchT
  rw [List.length_map]
  exact Nat.le_trans (List.length_filter_le _ _) (by simp)
def rchV (many : Int) (L : List T3) (fr : Int) : List Int := if edgesValid many L = true ∧ inB fr 0 (many - 1) = true then rchT many.toNat L fr many.toNat else []
theorem rchV_len (many : Int) (L : List T3) (fr : Int) : (rchV many L fr).length ≤ 6 := by
  unfold rchV
  split
  · rename_i h
    obtain ⟨m, rfl, hm, _⟩ := edgesValid_iff h.1
    have := rchT_len m L fr m
    simpa using Nat.le_trans this hm
  · exact Nat.zero_le _
/-- the numbers of the bits of a small set -/
def mem6 (x : Nat) : List Int := ((List.range 6).filter x.testBit).map Int.ofNat
theorem mem6_step (x : Nat) (h : x < 64) (h0 : x ≠ 0) : mem6 x = (Lib.ctz 64 x : Int) :: mem6 (x &&& (x - 1)) ∧ x &&& (x - 1) < x := by
  have : ∀ y : Fin 64, y.1 ≠ 0 → mem6 y.1 = (Lib.ctz 64 y.1 : Int) :: mem6 (y.1 &&& (y.1 - 1)) ∧ y.1 &&& (y.1 - 1) < y.1 := by decide
  exact this ⟨x, h⟩ h0
theorem mem6_len (x : Nat) : (mem6 x).length ≤ 6 := by
  unfold mem6
  rw [List.length_map]
  exact Nat.le_trans (List.length_filter_le _ _) (by simp)
theorem trans_head {r : Nat → Nat → Prop} {a b : Nat} : Relation.TransGen r a b ↔ ∃ u, r a u ∧ (u = b ∨ Relation.TransGen r u b) := by
  constructor
  · intro h
    induction h with
    | single h => exact ⟨_, h, .inl rfl⟩
    | tail _ h2 ih =>
      obtain ⟨u, h3, h4⟩ := ih
      rcases h4 with rfl | h4
      · exact ⟨_, h3, .inr (.single h2)⟩
      · exact ⟨_, h3, .inr (.tail h4 h2)⟩
  · rintro ⟨u, h1, rfl | h2⟩
    · exact .single h1
    · induction h2 with
      | single h => exact .tail (.single h1) h
      | tail _ h ih => exact .tail ih h
theorem rch_bit {m : Nat} {L : List T3} (hm : m ≤ 6) (hL : EdM m L) {f k : Nat} (hf : f < m) (hk : k < m) : (clo (rowsOf [1, 2, 3, 4] L) f).testBit k = rchP m L f k := by
  have h6 := edM_ed6 hm hL
  have hb : Bit (rowsOf [1, 2, 3, 4] L) = Ed L := bit_ed h6 (fun e => ⟨fun he => ⟨he, by obtain ⟨_, _, _, _, _, h1, h2⟩ := hL e he; simp; omega⟩, fun h => h.1⟩)
  have hlow := rowsOf_low [1, 2, 3, 4] L h6
  rw [Bool.eq_iff_iff]
  have h1 : (clo (rowsOf [1, 2, 3, 4] L) f).testBit k = true ↔ Relation.TransGen (Ed L) f k := by
    rw [← hb, ← clo_iff hlow]
    exact ⟨fun h => ⟨by omega, h⟩, fun h => h.2⟩
  rw [h1, trans_head]
  unfold rchP
  rw [List.any_eq_true]
  have hL2 : ∀ e ∈ L, 0 ≤ e.a ∧ e.a < m ∧ 0 ≤ e.b ∧ e.b < m := fun e he => by have := hL e he; omega
  constructor
  · rintro ⟨u, ⟨e, he, ha, hbu⟩, hu⟩
    refine ⟨e, he, ?_⟩
    rw [Bool.and_eq_true, decide_eq_true_eq, decide_eq_true_eq]
    exact ⟨ha, (far_iff hk hL2 _).2 (by rw [show e.b.toNat = u by omega]; exact hu)⟩
  · rintro ⟨e, he, hc⟩
    rw [Bool.and_eq_true, decide_eq_true_eq, decide_eq_true_eq] at hc
    have hg := hL2 e he
    exact ⟨e.b.toNat, ⟨e, he, hc.1, by omega⟩, (far_iff hk hL2 _).1 hc.2⟩
theorem rch_high {m : Nat} {L : List T3} (hm : m ≤ 6) (hL : EdM m L) {f k : Nat} (hk : m ≤ k) : (clo (rowsOf [1, 2, 3, 4] L) f).testBit k = true → f < 6 → False := by
  intro h hf
  have h6 := edM_ed6 hm hL
  have hb : Bit (rowsOf [1, 2, 3, 4] L) = Ed L := bit_ed h6 (fun e => ⟨fun he => ⟨he, by obtain ⟨_, _, _, _, _, h1, h2⟩ := hL e he; simp; omega⟩, fun h => h.1⟩)
  have ht := (clo_iff (rowsOf_low [1, 2, 3, 4] L h6) f k).1 ⟨hf, h⟩
  rw [hb] at ht
  cases ht with
  | single h => obtain ⟨e, he, _, hbk⟩ := h; have := hL e he; omega
  | tail _ h => obtain ⟨e, he, _, hbk⟩ := h; have := hL e he; omega
theorem rch_mem {m : Nat} {L : List T3} (hm : m ≤ 6) (hL : EdM m L) {f : Nat} (hf : f < m) : mem6 (clo (rowsOf [1, 2, 3, 4] L) f) = rchT m L f m := by
  unfold mem6 rchT
  congr 1
  have e : List.range 6 = List.range m ++ (List.range (6 - m)).map (m + ·) := by
    rw [← List.range_add]
    congr 1
    omega
  rw [e, List.filter_append]
  have h1 : (List.range m).filter (clo (rowsOf [1, 2, 3, 4] L) f).testBit = (List.range m).filter (rchP m L f) := by
    apply List.filter_congr
    intro k hk
    exact rch_bit hm hL hf (List.mem_range.1 hk)
  have h2 : ((List.range (6 - m)).map (m + ·)).filter (clo (rowsOf [1, 2, 3, 4] L) f).testBit = [] := by
    rw [List.filter_eq_nil_iff]
    intro k hk hb
    obtain ⟨j, _, rfl⟩ := List.mem_map.1 hk
    exact rch_high hm hL (by omega) hb (by omega)
  rw [h1, h2, List.append_nil]
end Go.Proofs.YtbglkjmoednapaaDoor

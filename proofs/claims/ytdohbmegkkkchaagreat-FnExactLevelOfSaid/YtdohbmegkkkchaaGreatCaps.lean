/-
  A copy of a history has room for its operations.
-/
import Derived.Test.YtdohbmegkkkchaaGreatTxns
namespace Go.Proofs.YtdohbmegkkkchaaGreat
set_option linter.unusedSimpArgs false
set_option linter.unusedVariables false
set_option maxRecDepth 100000
open Go.RowKit

/-- no slice of operations is longer than its room -/
def Caps (w : World) (A : Option Addr) (m : Nat) : Prop := ∀ b off, A = some ⟨b, off, none⟩ → b < w.heap.size ∧ ∀ i, i < m → ∀ A' n c, w.cell? ⟨b, off + i * 3 + 1, none⟩ = some (.slice A' n c) → n ≤ c
theorem Caps.ext {w w' : World} {A : Option Addr} {m : Nat} (h : Caps w A m) (hE : Ext w w') : Caps w' A m := fun b off e => by
  obtain ⟨h1, h2⟩ := h b off e
  refine ⟨Nat.lt_of_lt_of_le h1 hE.size, fun i hi A' n c hc => h2 i hi A' n c ?_⟩
  rw [← hc]
  exact (World.cell?_of_block (a := ⟨b, off + i * 3 + 1, none⟩) (hE.block b h1)).symm
/-- .. among the cells of a block -/
def CapC (cs : Array Value) (k : Nat) : Prop := ∀ i, i < k → ∀ A n c, cs[i * 3 + 1]? = some (.slice A n c) → n ≤ c
theorem CapC.step {cs : Array Value} {k : Nat} {s : Int} {A : Option Addr} {n : Nat} {d : Bool} (h : CapC cs k) (hs : k * 3 + 1 < cs.size) : CapC (((cs.setIfInBounds (k * 3) (.int .i64 s)).setIfInBounds (k * 3 + 1) (.slice A n n)).setIfInBounds (k * 3 + 2) (.bool d)) (k + 1) := by
  intro i hi A' n' c' hc
  rcases Nat.lt_or_ge i k with h1 | h1
  · rw [Array.getElem?_setIfInBounds_ne (by omega), Array.getElem?_setIfInBounds_ne (by omega), Array.getElem?_setIfInBounds_ne (by omega)] at hc
    exact h i h1 A' n' c' hc
  · obtain rfl : i = k := by omega
    rw [Array.getElem?_setIfInBounds_ne (by omega), Array.getElem?_setIfInBounds_self_of_lt (by (try simp); omega)] at hc
    cases hc
    exact Nat.le_refl _
theorem CapC.caps {w : World} {g : Nat} {t : TypeId} {cs : Array Value} {k : Nat} (h : CapC cs k) (hB : Blk w g t cs) : Caps w (some ⟨g, 0, none⟩) k := fun b off e => by
  cases e
  exact ⟨hB.lt, fun i hi A n c hc => h i hi A n c (by rw [← hc, Nat.zero_add]; exact (hB.cell _).symm)⟩
/-- a copy of a history, and its room -/
def FreshHC (xs : List TxnT) (w : World) (e : Ending) (w' : World) : Prop := ∃ A, e = .returned (.slice A xs.length xs.length) ∧ Txns2 (fun b => w.heap.size ≤ b) (fun b => w.heap.size < b) w' A xs ∧ Caps w' A xs.length ∧ Ext w w'
set_option maxHeartbeats 2000000 in
theorem toTxnSC_c (xs : List TxnT) (S : Nat → Prop) (A : Option Addr) (c : Nat) (w : World) (hx : Txns S w A xs) (hs : Small xs) :
    Calls Tryz.prog 10 #[.slice A xs.length c] w (FreshHC xs w) := by
  have hn := hs.len
  obtain ⟨i0, hi, hz0, hz1, hz2⟩ := info_parts infoTxn
  have hmk := fun W => run_make_rowN (P := Tryz.prog) 28 55 i0 _ Tryz.underlying28 hi hz0 .i64 .i64 xs.length xs.length (Nat.le_refl _) (by rw [hz2]; omega) (by omega) W
  rw [hz1] at hmk
  go_enter Tryz.func10, Tryz.ntmps10
  go_wp2
  go_loopw [4] (fun i wr => ∃ (k : Nat) (cs : Array Value), k ≤ xs.length ∧ i = .int .i64 k ∧ Blk wr w.heap.size 55 cs ∧ UptoT wr (fun b => w.heap.size < b) cs xs k ∧ CapC cs k ∧ Ext w wr) (fun i _ => xs.length - (intOf i).toNat)
  case atStart => exact ⟨0, _, Nat.zero_le _, rfl, Blk.new _ _ _, ⟨by simp [madeCells], fun i x h => by omega⟩, fun i hi => by omega, by (repeat' (first | (with_reducible exact Below.refl _ _) | (with_reducible refine Below.mono (by assumption) ?_) | (with_reducible refine Below.trans ?_ (Below.mono (by assumption) ?_)) | (with_reducible refine Below.alloc ?_ ?_ _) | (with_reducible refine Below.drew ?_) | (with_reducible refine below_drewN ?_ _) | (with_reducible refine Below.setCell ?_ ?_ _) | (simp only [World.size_alloc, World.size_setCell, World.size_drew, size_drewN]; omega) | omega))⟩
  case round =>
    obtain ⟨k, cs, hk, rfl, hB, hU, hC, hE⟩ := hrel
    by_cases hlt : k < xs.length
    · obtain ⟨s, ops, d, A', cap, b, off, hxk, rfl, _, hb0, hO, c0, c1, c2⟩ := (hx.ext hE).at_ hlt
      have hg := hB.lt
      have hs3 := hU.1
      have hon := hs.ops hxk
      simp only at hon
      obtain ⟨u0, d0⟩ := hB.at_ (i := k * 3) (by omega)
      obtain ⟨u1, d1⟩ := hB.at_ (i := k * 3 + 1) (by omega)
      obtain ⟨u2, d2⟩ := hB.at_ (i := k * 3 + 2) (by omega)
      have hfz := hB.frozen
      have HC := Lib.hid hC
      have HX := Lib.hid hxk; have HU := Lib.hid hU; have HS := Lib.hid hs3
      clear hxk hU hs3 hC
      go_wp2_with (go_at_call 33; refine (toTxn_c ⟨s, ops, d⟩ _ _ _ _ (hO.ext (by (repeat' (first | (with_reducible exact Below.refl _ _) | (with_reducible refine Below.mono (by assumption) ?_) | (with_reducible refine Below.trans ?_ (Below.mono (by assumption) ?_)) | (with_reducible refine Below.alloc ?_ ?_ _) | (with_reducible refine Below.drew ?_) | (with_reducible refine below_drewN ?_ _) | (with_reducible refine Below.setCell ?_ ?_ _) | (simp only [World.size_alloc, World.size_setCell, World.size_drew, size_drewN]; omega) | omega)))) hon).mono ?_; rintro e w1 ⟨A2, rfl, hA2, hf2, hb⟩; obtain ⟨hc, hf, hz, hs⟩ := bcell hb; (try simp only [World.size_alloc, World.size_setCell, World.size_drew, size_drewN] at hs); (first | have l0 := Nat.lt_of_lt_of_le l0 (show _ ≤ w1.heap.size by omega) | have l0 : w.heap.size < w1.heap.size := (by omega) | skip); (try have l0e := Nat.le_of_lt l0); (try have l0f := Nat.le_add_right_of_le (k := 1) l0e); (try have l1 := Nat.lt_of_lt_of_le l1 (show _ ≤ w1.heap.size by omega)); (try have l1e := Nat.le_of_lt l1); (try have l1f := Nat.le_add_right_of_le (k := 1) l1e); (try have l2 := Nat.lt_of_lt_of_le l2 (show _ ≤ w1.heap.size by omega)); (try have l2e := Nat.le_of_lt l2); (try have l2f := Nat.le_add_right_of_le (k := 1) l2e); (try have l3 := Nat.lt_of_lt_of_le l3 (show _ ≤ w1.heap.size by omega)); (try have l3e := Nat.le_of_lt l3); (try have l3f := Nat.le_add_right_of_le (k := 1) l3e))
      go_roundw
      case rel =>
        have hU2 := HU.out.ext hb
        have hO2 : Ops (fun b => w.heap.size < b) w1 A2 ops := hA2.mono (fun b h _ => by omega) (fun _ _ h => h)
        have hst := hU2.step (cap := ops.length) HX.out hO2
        refine ⟨k + 1, _, by omega, by go_num, (((hB.ext hb).set_ _ _).set_ _ _).set_ _ _, ?_, HC.out.step (by rw [HS.out]; omega), by (repeat' (first | (with_reducible exact Below.refl _ _) | (with_reducible refine Below.mono (by assumption) ?_) | (with_reducible refine Below.trans ?_ (Below.mono (by assumption) ?_)) | (with_reducible refine Below.alloc ?_ ?_ _) | (with_reducible refine Below.drew ?_) | (with_reducible refine below_drewN ?_ _) | (with_reducible refine Below.setCell ?_ ?_ _) | (simp only [World.size_alloc, World.size_setCell, World.size_drew, size_drewN]; omega) | omega))⟩
        exact ((hst.setCell (by simp) _).setCell (by simp) _).setCell (by simp) _
      case measure => simp [intOf]; omega
    · obtain rfl : k = xs.length := by omega
      go_wp2
      go_ret
      exact ⟨_, rfl, hU.txns hB (Nat.le_refl _), hC.caps hB, hE⟩
end Go.Proofs.YtdohbmegkkkchaaGreat

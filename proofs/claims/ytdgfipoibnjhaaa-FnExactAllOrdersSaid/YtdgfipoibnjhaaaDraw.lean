/-
  Contracts of the reader of draws: what is open, one number, one choice.
-/
import Derived.Test.YtdgfipoibnjhaaaRes
import Derived.Laws.Bits64b
import Derived.Deep.QuietTactic
import Derived.BigQuiet
namespace Go.Proofs.Ytdgfipoibnjhaaa
set_option linter.unusedSimpArgs false
set_option linter.unusedVariables false
set_option maxRecDepth 100000
open Go.RowKit

/-- small numbers -/
def SmallI (n : Int) : Prop := -1000 ≤ n ∧ n ≤ 1000
def SmallOp (x : T3) : Prop := SmallI x.a ∧ SmallI x.b ∧ SmallI x.c
/-- block r is a reader at place p -/
def Rdr (w : World) (r p : Nat) : Prop := ∃ (A : Option Addr) (c : Nat) (bs : List Int), Blk w r 0 #[.slice A bs.length c, .int .i64 p] ∧ bs.length ≤ 2000 ∧ Byts (fun b => b < r) w A bs ∧ ∀ x ∈ bs, 0 ≤ x ∧ x ≤ 255
/-- .. at a place that is at most P -/
def RdrB (w : World) (r P : Nat) : Prop := ∃ p, p ≤ P ∧ Rdr w r p
theorem Rdr.lt {w : World} {r p : Nat} (h : Rdr w r p) : r < w.heap.size := by
  obtain ⟨A, c, bs, hB, _⟩ := h
  exact hB.lt
theorem Rdr.ext {w w' : World} {r p : Nat} (h : Rdr w r p) (hE : Ext w w') : Rdr w' r p := by
  obtain ⟨A, c, bs, hB, hl, hb, hv⟩ := h
  exact ⟨A, c, bs, hB.ext hE, hl, hb.ext hE, hv⟩
theorem RdrB.lt {w : World} {r P : Nat} (h : RdrB w r P) : r < w.heap.size := by
  obtain ⟨p, _, h⟩ := h
  exact h.lt
theorem RdrB.ext {w w' : World} {r P : Nat} (h : RdrB w r P) (hE : Ext w w') : RdrB w' r P := by
  obtain ⟨p, hp, h⟩ := h
  exact ⟨p, hp, h.ext hE⟩
theorem RdrB.mono {w : World} {r P Q : Nat} (h : RdrB w r P) (hq : P ≤ Q) : RdrB w r Q := by
  obtain ⟨p, hp, h⟩ := h
  exact ⟨p, Nat.le_trans hp hq, h⟩
/-- writes to another block leave a reader alone -/
theorem Rdr.grown {w w' : World} {r p : Nat} {row : Option Nat} (h : Rdr w r p) (hg : w.grownBy w' row) (hr : ∀ g, row = some g → r < g) : Rdr w' r p := by
  obtain ⟨A, c, bs, hB, hl, hb, hv⟩ := h
  exact ⟨A, c, bs, (hg.block r hB.lt (fun e => by have := hr r e.symm; omega)).trans hB, hl, SlAt.keep hb (kept_u8 _ _) hg.size (fun p hp hlt => World.cell?_of_block (hg.block p.block hlt (fun e => by have := hr _ e.symm; omega))), hv⟩
theorem RdrB.grown {w w' : World} {r P : Nat} {row : Option Nat} (h : RdrB w r P) (hg : w.grownBy w' row) (hr : ∀ g, row = some g → r < g) : RdrB w' r P := by
  obtain ⟨p, hp, h⟩ := h
  exact ⟨p, hp, h.grown hg hr⟩

theorem w64s {n : Int} (h0 : 0 ≤ n) (h1 : n < 9223372036854775808) : wrap64 n = n := by unfold wrap64; omega
theorem bits_xor_i64_nat (a b : Nat) (ha : a < 4611686018427387904) (hb : b < 4611686018427387904) :
    bits .xor .i64 (a : Int) (b : Int) = ((a ^^^ b : Nat) : Int) := by
  have hx : a ^^^ b < 2 ^ 62 := Nat.xor_lt_two_pow (by omega) (by omega)
  have h1 : (BitVec.ofInt 64 (a : Int)).toNat = a := by
    rw [BitVec.ofInt_natCast, BitVec.toNat_ofNat]; exact Nat.mod_eq_of_lt (by omega)
  have h2 : (BitVec.ofInt 64 (b : Int)).toNat = b := by
    rw [BitVec.ofInt_natCast, BitVec.toNat_ofNat]; exact Nat.mod_eq_of_lt (by omega)
  show IntKind.i64.wrap ((BitVec.ofInt 64 (a : Int) ^^^ BitVec.ofInt 64 (b : Int)).toNat : Int) = _
  rw [BitVec.toNat_xor, h1, h2, IntKind.wrap_i64]
  omega
/-- the mixed number that a pick past the end of the code takes -/
theorem mixed (X : Int) (n : Int) (h0 : 0 ≤ X) (h1 : X < 4611686018427387904) (hn : 1 ≤ n) :
    ∃ z : Nat, (bits .xor .i64 X (wrap64 (X.tdiv 64))).tmod n = z ∧ (z : Int) < n := by
  obtain ⟨x, rfl⟩ := Int.eq_ofNat_of_zero_le h0
  have e : wrap64 ((x : Int).tdiv 64) = ((x / 64 : Nat) : Int) := by
    rw [Int.tdiv_eq_ediv_of_nonneg (by omega)]
    rw [w64s (by omega) (by omega)]
    rfl
  rw [e, bits_xor_i64_nat _ _ (by omega) (by omega), Int.tmod_eq_emod_of_nonneg (by omega)]
  obtain ⟨z, hz⟩ := Int.eq_ofNat_of_zero_le (Int.emod_nonneg (((x ^^^ x / 64 : Nat) : Int)) (show n ≠ 0 by omega))
  exact ⟨z, hz, by rw [← hz]; exact Int.emod_lt_of_pos _ (by omega)⟩
theorem RdrB.drewN {w : World} {r P : Nat} (h : RdrB w r P) (n : Nat) : RdrB (w.drewN n) r P := h
end Go.Proofs.Ytdgfipoibnjhaaa

/-
  Contracts of the reader of draws: what is open, one number, one choice.
-/
import Derived.Test.YtdgfipoibnjhaaaDoorRes
import Derived.Laws.Bits64b
import Derived.Deep.QuietTactic
import Derived.BigQuiet
namespace Go.Proofs.YtdgfipoibnjhaaaDoor
set_option linter.unusedSimpArgs false
set_option linter.unusedVariables false
set_option maxRecDepth 100000
open Go.RowKit

/-- small numbers -/
def SmallI (n : Int) : Prop := -1000 ≤ n ∧ n ≤ 1000
def SmallOp (x : T3) : Prop := SmallI x.a ∧ SmallI x.b ∧ SmallI x.c
/-- block r is a reader at place p -/
def Rdr (w : World) (r p : Nat) : Prop := ∃ (A : Option Addr) (c : Nat) (bs : List Int), Blk w r 88 #[.slice A bs.length c, .int .i64 p] ∧ bs.length ≤ 2000 ∧ Byts (fun b => b < r) w A bs ∧ ∀ x ∈ bs, 0 ≤ x ∧ x ≤ 255
/-- .. at a place that is at most P -/
def RdrB (w : World) (r P : Nat) : Prop := ∃ p, p ≤ P ∧ Rdr w r p
theorem Rdr.lt {w : World} {r p : Nat} (h : Rdr w r p) : r < w.heap.size := by
  obtain ⟨A, c, bs, hB, _⟩ := h
  exact hB.lt
theorem Rdr.ext {w w' : World} {r p : Nat} (h : Rdr w r p) (hE : Ext w w') : Rdr w' r p := by
  obtain ⟨A, c, bs, hB, hl, hb, hv⟩ := h
  exact ⟨A, c, bs, hB.ext hE, hl, hb.ext hE, hv⟩
theorem RdrB.lt {w : World} {r P : Nat} (h : RdrB w r P) : r < w.heap.size := by
  obtain ⟨p, _, h⟩ := h
  exact h.lt
theorem RdrB.ext {w w' : World} {r P : Nat} (h : RdrB w r P) (hE : Ext w w') : RdrB w' r P := by
  obtain ⟨p, hp, h⟩ := h
  exact ⟨p, hp, h.ext hE⟩
theorem RdrB.mono {w : World} {r P Q : Nat} (h : RdrB w r P) (hq : P ≤ Q) : RdrB w r Q := by
  obtain ⟨p, hp, h⟩ := h
  exact ⟨p, Nat.le_trans hp hq, h⟩
/-- writes to another block leave a reader alone -/
theorem Rdr.grown {w w' : World} {r p : Nat} {row : Option Nat} (h : Rdr w r p) (hg : w.grownBy w' row) (hr : ∀ g, row = some g → r < g) : Rdr w' r p := by
  obtain ⟨A, c, bs, hB, hl, hb, hv⟩ := h
  exact ⟨A, c, bs, (hg.block r hB.lt (fun e => by have := hr r e.symm; omega)).trans hB, hl, SlAt.keep hb (kept_u8 _ _) hg.size (fun p hp hlt => World.cell?_of_block (hg.block p.block hlt (fun e => by have := hr _ e.symm; omega))), hv⟩
theorem RdrB.grown {w w' : World} {r P : Nat} {row : Option Nat} (h : RdrB w r P) (hg : w.grownBy w' row) (hr : ∀ g, row = some g → r < g) : RdrB w' r P := by
  obtain ⟨p, hp, h⟩ := h
  exact ⟨p, hp, h.grown hg hr⟩

theorem w64s {n : Int} (h0 : 0 ≤ n) (h1 : n < 9223372036854775808) : wrap64 n = n := by unfold wrap64; omega
theorem bits_xor_i64_nat (a b : Nat) (ha : a < 4611686018427387904) (hb : b < 4611686018427387904) :
    bits .xor .i64 (a : Int) (b : Int) = ((a ^^^ b : Nat) : Int) := by
  have hx : a ^^^ b < 2 ^ 62 := Nat.xor_lt_two_pow (by omega) (by omega)
  have h1 : (BitVec.ofInt 64 (a : Int)).toNat = a := by
    rw [BitVec.ofInt_natCast, BitVec.toNat_ofNat]; exact Nat.mod_eq_of_lt (by omega)
  have h2 : (BitVec.ofInt 64 (b : Int)).toNat = b := by
    rw [BitVec.ofInt_natCast, BitVec.toNat_ofNat]; exact Nat.mod_eq_of_lt (by omega)
  show IntKind.i64.wrap ((BitVec.ofInt 64 (a : Int) ^^^ BitVec.ofInt 64 (b : Int)).toNat : Int) = _
  rw [BitVec.toNat_xor, h1, h2, IntKind.wrap_i64]
  omega
/-- the mixed number that a pick past the end of the code takes -/
theorem mixed (X : Int) (n : Int) (h0 : 0 ≤ X) (h1 : X < 4611686018427387904) (hn : 1 ≤ n) :
    ∃ z : Nat, (bits .xor .i64 X (wrap64 (X.tdiv 64))).tmod n = z ∧ (z : Int) < n := by
  obtain ⟨x, rfl⟩ := Int.eq_ofNat_of_zero_le h0
  have e : wrap64 ((x : Int).tdiv 64) = ((x / 64 : Nat) : Int) := by
    rw [Int.tdiv_eq_ediv_of_nonneg (by omega)]
    rw [w64s (by omega) (by omega)]
    rfl
  rw [e, bits_xor_i64_nat _ _ (by omega) (by omega), Int.tmod_eq_emod_of_nonneg (by omega)]
  obtain ⟨z, hz⟩ := Int.eq_ofNat_of_zero_le (Int.emod_nonneg (((x ^^^ x / 64 : Nat) : Int)) (show n ≠ 0 by omega))
  exact ⟨z, hz, by rw [← hz]; exact Int.emod_lt_of_pos _ (by omega)⟩
theorem gcell {W w1 : World} {g : Nat} (h : W.grownBy w1 (some g)) : (∀ b o, b < W.heap.size → b ≠ g → w1.cell? ⟨b, o, none⟩ = W.cell? ⟨b, o, none⟩) ∧ (∀ b o, b < W.heap.size → b ≠ g → w1.frozen? ⟨b, o, none⟩ = W.frozen? ⟨b, o, none⟩) ∧ (∀ n, n < W.heap.size → n < w1.heap.size) ∧ W.heap.size ≤ w1.heap.size :=
  ⟨fun b o hb hn => World.cell?_of_block (h.block b hb (fun e => hn (Option.some.inj e))), fun b o hb hn => World.frozen?_of_block (h.block b hb (fun e => hn (Option.some.inj e))), fun _ hb => Nat.lt_of_lt_of_le hb h.size, h.size⟩
theorem RdrB.drewN {w : World} {r P : Nat} (h : RdrB w r P) (n : Nat) : RdrB (w.drewN n) r P := h
theorem grown_drewN {w w' : World} {row : Option Nat} (h : w.grownBy w' row) (n : Nat) : w.grownBy (w'.drewN n) row := ⟨h.os, h.tape, h.output, h.size, h.block⟩

/-- what a pick leaves: a number below n, and the reader one place on; no other block has turned -/
def Picked (r P : Nat) (n : Int) (w : World) (e : Ending) (w' : World) : Prop := ∃ k : Nat, e = .returned (.int .i64 k) ∧ (1 ≤ n → (k : Int) < n) ∧ RdrB w' r (P + 1) ∧ w.grownBy w' (some r)
set_option maxHeartbeats 1000000 in
theorem pick_c (r P : Nat) (n : Int) (w : World) (h : RdrB w r P) (hP : P ≤ 100000) (hn : -1000 ≤ n) (hn2 : n ≤ 1000) :
    Calls Tryd.prog 65 #[.pointer (some ⟨r, 0, none⟩), .int .i64 n] w (Picked r P n w) := by
  obtain ⟨p, hp, A, c, bs, hB, hl, hby, hv⟩ := h
  have c0 := hB.cell 0
  have c1 := hB.cell 1
  simp only [List.getElem?_toArray, List.getElem?_cons_zero, List.getElem?_cons_succ] at c0 c1
  have hfz := hB.frozen
  have hB2 := hB.set_ 1 (.int .i64 ((p : Int) + 1))
  have hR2 : RdrB (w.setCell ⟨r, 1, none⟩ (.int .i64 ((p : Int) + 1))) r (P + 1) :=
    ⟨p + 1, by omega, A, c, bs, hB2, hl, SlAt.keep hby (kept_u8 _ _) (by simp [World.setCell]) (fun q hq _ => World.cell?_setCell_other w ⟨r, 1, none⟩ q _ (fun e => by have : q.block = r := by rw [← e]
                                                                                                                                                                        omega)), hv⟩
  have hg2 : w.grownBy (w.setCell ⟨r, 1, none⟩ (.int .i64 ((p : Int) + 1))) (some r) := grown_set _
  have HR := Lib.hid hR2
  have HG := Lib.hid hg2
  have HV := Lib.hid hv
  have hlt := hB.lt
  clear hB hB2 hR2 hg2 hv
  by_cases hn1 : n < 1
  · go_enter Tryd.func65, Tryd.ntmps65
    go_wp2
    go_ret
    exact ⟨0, rfl, fun h => by omega, HR.out, HG.out⟩
  by_cases h0 : bs.length = 0
  · have e0 : ((bs.length : Int) == 0) = true := by simp [h0]
    go_enter Tryd.func65, Tryd.ntmps65
    go_wp2
    go_ret
    exact ⟨0, rfl, fun h => by omega, HR.out, HG.out⟩
  have e0 : ((bs.length : Int) == 0) = false := by simpa using h0
  have hpos : 0 < bs.length := by omega
  by_cases hk : p < bs.length
  · obtain ⟨x, b, off, hx, rfl, hS, hb, cx⟩ := hby.at_ hk
    obtain ⟨v1, v2⟩ := HV.out x (List.mem_of_getElem? hx)
    have hbr : b ≠ r := by omega
    obtain ⟨y, rfl⟩ := Int.eq_ofNat_of_zero_le v1
    have cx2 : (w.setCell ⟨r, 1, none⟩ (.int .i64 ((p : Int) + 1))).cell? ⟨b, off + p, none⟩ = some (.int .u8 y) := by
      rw [World.cell?_setCell_other _ _ _ _ (fun e => by have h9 := congrArg Addr.block e; simp only at h9; omega)]
      exact cx
    have hm1 : (y : Int) % n < n := Int.emod_lt_of_pos _ (by omega)
    have hm0 : 0 ≤ (y : Int) % n := Int.emod_nonneg _ (by omega)
    obtain ⟨z, hz⟩ := Int.eq_ofNat_of_zero_le hm0
    have HZ := Lib.hid hz
    have HM := Lib.hid hm1
    clear hx h0 hz hm1 hm0
    go_enter Tryd.func65, Tryd.ntmps65
    go_wp2
    go_ret
    exact ⟨z, by rw [← HZ.out]; rfl, fun _ => by rw [← HZ.out]; exact HM.out, HR.out, HG.out⟩
  · have hi1 : p % bs.length < bs.length := Nat.mod_lt _ hpos
    have hi2 : (p * 7 + 3) % bs.length < bs.length := Nat.mod_lt _ hpos
    obtain ⟨x1, b, off, hx1, rfl, hS, hb, cx1⟩ := hby.at_ hi1
    obtain ⟨x2, b', off', hx2, e2, hS', hb', cx2⟩ := hby.at_ hi2
    cases e2
    obtain ⟨v1, v2⟩ := HV.out x1 (List.mem_of_getElem? hx1)
    obtain ⟨v3, v4⟩ := HV.out x2 (List.mem_of_getElem? hx2)
    obtain ⟨y1, rfl⟩ := Int.eq_ofNat_of_zero_le v1
    obtain ⟨y2, rfl⟩ := Int.eq_ofNat_of_zero_le v3
    have cy1 : (w.setCell ⟨r, 1, none⟩ (.int .i64 ((p : Int) + 1))).cell? ⟨b, off + p % bs.length, none⟩ = some (.int .u8 y1) := by
      rw [World.cell?_setCell_other _ _ _ _ (fun e => by have h9 := congrArg Addr.block e; simp only at h9; omega)]
      exact cx1
    have cy2 : (w.setCell ⟨r, 1, none⟩ (.int .i64 ((p : Int) + 1))).cell? ⟨b, off + (p * 7 + 3) % bs.length, none⟩ = some (.int .u8 y2) := by
      rw [World.cell?_setCell_other _ _ _ _ (fun e => by have h9 := congrArg Addr.block e; simp only at h9; omega)]
      exact cx2
    have z0 : (w.setCell ⟨r, 1, none⟩ (.int .i64 ((p : Int) + 1))).cell? ⟨r, 0, none⟩ = some (.slice (some ⟨b, off, none⟩) bs.length c) := by
      rw [World.cell?_setCell_other _ _ _ _ (by simp)]
      exact c0
    have hlp : (0 : Int) < bs.length := by omega
    have j1 : (0 : Int) ≤ ((p : Int) * 7 + 3) % (bs.length : Int) := Int.emod_nonneg _ (by omega)
    have j2 : ((p : Int) * 7 + 3) % (bs.length : Int) < bs.length := Int.emod_lt_of_pos _ hlp
    have j3 : (((p : Int) * 7 + 3) % (bs.length : Int)).toNat = (p * 7 + 3) % bs.length := by
      have e : ((p : Int) * 7 + 3) % (bs.length : Int) = (((p * 7 + 3) % bs.length : Nat) : Int) := by simp
      rw [e]
      rfl
    clear hx1 hx2 h0 cx1 cx2 HV
    go_enter Tryd.func65, Tryd.ntmps65
    go_wp2
    generalize w.setCell ⟨r, 1, none⟩ (.int .i64 ((p : Int) + 1)) = W at z0 cy1 cy2 HR HG ⊢
    go_quiet (fail)
    go_wp2
    have hm : wrap64 (↑y1 * 131 + ↑y2 * 1117 + ↑p * 29 + wrap64 (wrap64 (↑p / ↑bs.length) * 53)) = (y1 : Int) * 131 + y2 * 1117 + p * 29 + (p : Int) / bs.length * 53 := by
      have q0 : (0 : Int) ≤ (p : Int) / bs.length := Int.ediv_nonneg (by omega) (by omega)
      have q1 : (p : Int) / bs.length ≤ p := Int.ediv_le_self _ (by omega)
      generalize (p : Int) / bs.length = q at q0 q1 ⊢
      rw [w64s (n := q) (by omega) (by omega), w64s (n := q * 53) (by omega) (by omega), w64s (by omega) (by omega)]
    have q0 : (0 : Int) ≤ (p : Int) / bs.length := Int.ediv_nonneg (by omega) (by omega)
    have q1 : (p : Int) / bs.length ≤ p := Int.ediv_le_self _ (by omega)
    rw [hm]
    obtain ⟨z, hz, hzn⟩ := mixed ((y1 : Int) * 131 + y2 * 1117 + p * 29 + (p : Int) / bs.length * 53) n (by omega) (by omega) (by omega)
    rw [hz]
    go_ret
    exact ⟨z, rfl, fun _ => hzn, HR.out.drewN nq, grown_drewN HG.out nq⟩
def PickedB (r P : Nat) (w : World) (e : Ending) (w' : World) : Prop := ∃ b : Bool, e = .returned (.bool b) ∧ RdrB w' r (P + 1) ∧ w.grownBy w' (some r)
theorem odd_c (r P : Nat) (n : Int) (w : World) (h : RdrB w r P) (hP : P ≤ 100000) (hn : -1000 ≤ n) (hn2 : n ≤ 1000) :
    Calls Tryd.prog 72 #[.pointer (some ⟨r, 0, none⟩), .int .i64 n] w (PickedB r P w) := by
  by_cases h0 : 0 < n
  · go_enter Tryd.func72, Tryd.ntmps72
    go_wp2_with (fail)
    go_at_call 65
    refine (pick_c r P n w h hP hn hn2).mono ?_
    rintro e w' ⟨k, rfl, hk, hR, hG⟩
    obtain ⟨hc, hf, hz, hs⟩ := gcell hG
    (try simp only [World.size_alloc, World.size_setCell, World.size_drew, size_drewN] at hs); (first | have l0 := Nat.lt_of_lt_of_le l0 (show _ ≤ w'.heap.size by omega) | have l0 : w.heap.size < w'.heap.size := (by omega) | skip); (try have l0e := Nat.le_of_lt l0); (try have l0f := Nat.le_add_right_of_le (k := 1) l0e); (try have l1 := Nat.lt_of_lt_of_le l1 (show _ ≤ w'.heap.size by omega)); (try have l1e := Nat.le_of_lt l1); (try have l1f := Nat.le_add_right_of_le (k := 1) l1e); (try have l2 := Nat.lt_of_lt_of_le l2 (show _ ≤ w'.heap.size by omega)); (try have l2e := Nat.le_of_lt l2); (try have l2f := Nat.le_add_right_of_le (k := 1) l2e); (try have l3 := Nat.lt_of_lt_of_le l3 (show _ ≤ w'.heap.size by omega)); (try have l3e := Nat.le_of_lt l3); (try have l3f := Nat.le_add_right_of_le (k := 1) l3e)
    go_wp2
    go_ret
    exact ⟨_, rfl, hR, hG⟩
  · go_enter Tryd.func72, Tryd.ntmps72
    go_wp2
    go_ret
    exact ⟨_, rfl, h.mono (Nat.le_succ P), grown_refl _ _⟩
/-- a new reader at place 0; nothing below has turned -/
def Opened (w : World) (e : Ending) (w' : World) : Prop := ∃ r : Nat, e = .returned (.pointer (some ⟨r, 0, none⟩)) ∧ w.heap.size ≤ r ∧ RdrB w' r 0 ∧ Ext w w'
theorem wfU8_take {xs : List Int} (h : ∀ x ∈ xs, 0 ≤ x ∧ x ≤ 255) (n : Nat) : ∀ x ∈ xs.take n, 0 ≤ x ∧ x ≤ 255 := fun x hx => h x (List.mem_of_mem_take hx)
theorem Byts.take {S : Nat → Prop} {w : World} {A : Option Addr} {xs : List Int} (h : Byts S w A xs) (n : Nat) : Byts S w A (xs.take n) := by
  intro i x hx
  exact h i x (by
    rw [List.getElem?_take] at hx
    split at hx
    · exact hx
    · cases hx)
theorem Byts.below {w w' : World} {A : Option Addr} {xs : List Int} (h : Byts Any w A xs) (hE : Ext w w') {r : Nat} (hr : w.heap.size ≤ r) : Byts (fun b => b < r) w' A xs := by
  have h1 : Byts (fun b => b < r) w A xs := SlAt.mono h (fun b _ hb => by omega) (fun _ _ h => h)
  exact SlAt.keep h1 (kept_u8 _ _) hE.size (fun p _ hp => hE.cells p (S := Any) trivial hp)
theorem l20Open_c (xs : List Int) (A : Option Addr) (c : Nat) (w : World) (h : Byts Any w A xs) (hv : ∀ x ∈ xs, 0 ≤ x ∧ x ≤ 255) (hc : xs.length ≤ c) :
    Calls Tryd.prog 35 #[.slice A xs.length c] w (Opened w) := by
  by_cases h0 : xs.length ≤ 2000
  · go_enter Tryd.func35, Tryd.ntmps35
    go_wp2
    go_ret
    exact ⟨_, rfl, Nat.le_refl _, ⟨0, Nat.le_refl _, A, c, xs, Blk.new _ _ _, h0, h.below (by (repeat' (first | (with_reducible exact Below.refl _ _) | (with_reducible refine Below.mono (by assumption) ?_) | (with_reducible refine Below.trans ?_ (Below.mono (by assumption) ?_)) | (with_reducible refine Below.alloc ?_ ?_ _) | (with_reducible refine Below.drew ?_) | (with_reducible refine below_drewN ?_ _) | (with_reducible refine Below.setCell ?_ ?_ _) | (simp only [World.size_alloc, World.size_setCell, World.size_drew, size_drewN]; omega) | omega))) (Nat.le_refl _), hv⟩, by (repeat' (first | (with_reducible exact Below.refl _ _) | (with_reducible refine Below.mono (by assumption) ?_) | (with_reducible refine Below.trans ?_ (Below.mono (by assumption) ?_)) | (with_reducible refine Below.alloc ?_ ?_ _) | (with_reducible refine Below.drew ?_) | (with_reducible refine below_drewN ?_ _) | (with_reducible refine Below.setCell ?_ ?_ _) | (simp only [World.size_alloc, World.size_setCell, World.size_drew, size_drewN]; omega) | omega))⟩
  · have hA : ∃ b off, A = some ⟨b, off, none⟩ := by
      obtain ⟨x, b, off, _, hA, _⟩ := h.at_ (i := 0) (by omega)
      exact ⟨b, off, hA⟩
    obtain ⟨b, off, rfl⟩ := hA
    go_enter Tryd.func35, Tryd.ntmps35
    go_wp2
    go_ret
    have e2 : (2000 : Nat) = (xs.take 2000).length := by rw [List.length_take]; omega
    rw [e2]
    exact ⟨_, rfl, Nat.le_refl _, ⟨0, Nat.le_refl _, _, c, xs.take 2000, Blk.new _ _ _, by rw [List.length_take]; omega, (h.take 2000).below (by (repeat' (first | (with_reducible exact Below.refl _ _) | (with_reducible refine Below.mono (by assumption) ?_) | (with_reducible refine Below.trans ?_ (Below.mono (by assumption) ?_)) | (with_reducible refine Below.alloc ?_ ?_ _) | (with_reducible refine Below.drew ?_) | (with_reducible refine below_drewN ?_ _) | (with_reducible refine Below.setCell ?_ ?_ _) | (simp only [World.size_alloc, World.size_setCell, World.size_drew, size_drewN]; omega) | omega))) (Nat.le_refl _), wfU8_take hv _⟩, by (repeat' (first | (with_reducible exact Below.refl _ _) | (with_reducible refine Below.mono (by assumption) ?_) | (with_reducible refine Below.trans ?_ (Below.mono (by assumption) ?_)) | (with_reducible refine Below.alloc ?_ ?_ _) | (with_reducible refine Below.drew ?_) | (with_reducible refine below_drewN ?_ _) | (with_reducible refine Below.setCell ?_ ?_ _) | (simp only [World.size_alloc, World.size_setCell, World.size_drew, size_drewN]; omega) | omega))⟩
/-- any operation with small numbers -/
def DrawnOp (r P : Nat) (w : World) (e : Ending) (w' : World) : Prop := ∃ x : T3, e = .returned (.agg #[.int .i64 x.a, .int .i64 x.b, .int .i64 x.c]) ∧ SmallOp x ∧ RdrB w' r (P + 7) ∧ w.grownBy w' (some r)
theorem lit_cell (w : World) (cs : Array Value) (t : TypeId) (k : Nat) : (w.alloc (.cells cs t)).cell? ⟨w.heap.size, k, none⟩ = cs[k]? := (Blk.new w t cs).cell k
theorem lit_three (w : World) (a b c : Int) (t : TypeId) (k : Nat) (hk : k < 3) : ∃ z : Int, (w.alloc (.cells #[.int .i64 a, .int .i64 b, .int .i64 c] t)).cell? ⟨w.heap.size, k, none⟩ = some (.int .i64 z) ∧ (z = a ∨ z = b ∨ z = c) := by
  rw [lit_cell]
  obtain rfl | rfl | rfl : k = 0 ∨ k = 1 ∨ k = 2 := by omega
  · exact ⟨a, rfl, .inl rfl⟩
  · exact ⟨b, rfl, .inr (.inl rfl)⟩
  · exact ⟨c, rfl, .inr (.inr rfl)⟩
theorem blkg {w w' : World} {g g' : Nat} {t : TypeId} {cs : Array Value} (hB : Blk w g' t cs) (h : w.grownBy w' (some g)) (hne : g' ≠ g) : Blk w' g' t cs := (h.block g' hB.lt (fun e => hne (Option.some.inj e))).trans hB
theorem smallOp {a b c : Int} (h0 : -1000 ≤ a) (h1 : a ≤ 1000) (h2 : -1000 ≤ b) (h3 : b ≤ 1000) (h4 : -1000 ≤ c) (h5 : c ≤ 1000) : SmallOp ⟨a, b, c⟩ := ⟨⟨h0, h1⟩, ⟨h2, h3⟩, ⟨h4, h5⟩⟩
theorem grown_set_new {w w' : World} {row : Option Nat} {g o : Nat} {v : Value} (h : w.grownBy w' row) (hg : w.heap.size ≤ g) : w.grownBy (w'.setCell ⟨g, o, none⟩ v) row :=
  ⟨h.os, h.tape, h.output, Nat.le_trans h.size (grown_set (a := w') (g := g) (o := o) v).size, fun k hk hn => ((grown_set (a := w') (g := g) (o := o) v).block k (Nat.lt_of_lt_of_le hk h.size) (fun e => by have := Option.some.inj e; omega)).trans (h.block k hk hn)⟩
theorem drawn_end {w w6 : World} {r P g : Nat} {a b c : Int} (hR : RdrB w6 r (P + 7)) (hrg : r < g) (hG : w.grownBy w6 (some r)) (hg : w.heap.size ≤ g) (hv : SmallOp ⟨a, b, c⟩) :
    DrawnOp r P w (.returned (.agg #[.int .i64 a, .int .i64 b, .int .i64 c])) (((w6.setCell ⟨g, 0, none⟩ (.int .i64 a)).setCell ⟨g, 1, none⟩ (.int .i64 b)).setCell ⟨g, 2, none⟩ (.int .i64 c)) :=
  ⟨⟨a, b, c⟩, rfl, hv, hR.grown (row := some g) (grown_trans (grown_trans (grown_set _) (grown_set _)) (grown_set _)) (fun k e => by have := Option.some.inj e; omega), grown_set_new (grown_set_new (grown_set_new hG hg) hg) hg⟩
def seven : Array Value := #[.int .i64 0, .int .i64 0, .int .i64 0, .int .i64 3, .int .i64 0, .int .i64 1, .int .i64 1, .int .i64 3, .int .i64 0, .int .i64 1, .int .i64 (-1), .int .i64 0, .int .i64 1, .int .i64 0, .int .i64 100, .int .i64 2, .int .i64 0, .int .i64 0, .int .i64 1, .int .i64 0, .int .i64 (-1)]
theorem seven_at (k : Nat) (hk : k < 7) : ∃ a b c : Int, seven[k * 3]? = some (.int .i64 a) ∧ seven[k * 3 + 1]? = some (.int .i64 b) ∧ seven[k * 3 + 2]? = some (.int .i64 c) ∧ SmallOp ⟨a, b, c⟩ := by
  obtain rfl | rfl | rfl | rfl | rfl | rfl | rfl : k = 0 ∨ k = 1 ∨ k = 2 ∨ k = 3 ∨ k = 4 ∨ k = 5 ∨ k = 6 := by omega
  all_goals exact ⟨_, _, _, rfl, rfl, rfl, smallOp (by omega) (by omega) (by omega) (by omega) (by omega) (by omega)⟩
set_option maxHeartbeats 4000000 in
theorem l20Op_c (r P : Nat) (n : Int) (w : World) (h : RdrB w r P) (hP : P ≤ 90000) (hn : -1000 ≤ n) (hn2 : n ≤ 1000) :
    Calls Tryd.prog 73 #[.pointer (some ⟨r, 0, none⟩), .int .i64 n] w (DrawnOp r P w) := by
  have hr := h.lt
  go_enter Tryd.func73, Tryd.ntmps73
  go_wp2_with (fail)
  go_at_call 65
  refine (pick_c r P 2 _ (h.ext (by (repeat' (first | (with_reducible exact Below.refl _ _) | (with_reducible refine Below.mono (by assumption) ?_) | (with_reducible refine Below.trans ?_ (Below.mono (by assumption) ?_)) | (with_reducible refine Below.alloc ?_ ?_ _) | (with_reducible refine Below.drew ?_) | (with_reducible refine below_drewN ?_ _) | (with_reducible refine Below.setCell ?_ ?_ _) | (simp only [World.size_alloc, World.size_setCell, World.size_drew, size_drewN]; omega) | omega)))) (by omega) (by omega) (by omega)).mono ?_
  rintro e w1 ⟨k1, rfl, hk1, hR1, hG1⟩
  obtain ⟨hc, hf, hz, hs⟩ := gcell hG1
  (try simp only [World.size_alloc, World.size_setCell, World.size_drew, size_drewN] at hs); (first | have l0 := Nat.lt_of_lt_of_le l0 (show _ ≤ w1.heap.size by omega) | have l0 : w.heap.size < w1.heap.size := (by omega) | skip); (try have l0e := Nat.le_of_lt l0); (try have l0f := Nat.le_add_right_of_le (k := 1) l0e); (try have l1 := Nat.lt_of_lt_of_le l1 (show _ ≤ w1.heap.size by omega)); (try have l1e := Nat.le_of_lt l1); (try have l1f := Nat.le_add_right_of_le (k := 1) l1e); (try have l2 := Nat.lt_of_lt_of_le l2 (show _ ≤ w1.heap.size by omega)); (try have l2e := Nat.le_of_lt l2); (try have l2f := Nat.le_add_right_of_le (k := 1) l2e); (try have l3 := Nat.lt_of_lt_of_le l3 (show _ ≤ w1.heap.size by omega)); (try have l3e := Nat.le_of_lt l3); (try have l3f := Nat.le_add_right_of_le (k := 1) l3e)
  go_wp2_with (fail)
  go_at_call 65
  refine (pick_c r (P + 1) 3 _ hR1 (by omega) (by omega) (by omega)).mono ?_
  rintro e w2 ⟨k2, rfl, hk2, hR2, hG2⟩
  obtain ⟨hc, hf, hz, hs⟩ := gcell hG2
  (try simp only [World.size_alloc, World.size_setCell, World.size_drew, size_drewN] at hs); (first | have l0 := Nat.lt_of_lt_of_le l0 (show _ ≤ w2.heap.size by omega) | have l0 : w.heap.size < w2.heap.size := (by omega) | skip); (try have l0e := Nat.le_of_lt l0); (try have l0f := Nat.le_add_right_of_le (k := 1) l0e); (try have l1 := Nat.lt_of_lt_of_le l1 (show _ ≤ w2.heap.size by omega)); (try have l1e := Nat.le_of_lt l1); (try have l1f := Nat.le_add_right_of_le (k := 1) l1e); (try have l2 := Nat.lt_of_lt_of_le l2 (show _ ≤ w2.heap.size by omega)); (try have l2e := Nat.le_of_lt l2); (try have l2f := Nat.le_add_right_of_le (k := 1) l2e); (try have l3 := Nat.lt_of_lt_of_le l3 (show _ ≤ w2.heap.size by omega)); (try have l3e := Nat.le_of_lt l3); (try have l3f := Nat.le_add_right_of_le (k := 1) l3e)
  go_wp2_with (fail)
  go_at_call 65
  refine (pick_c r (P + 2) 9 _ hR2 (by omega) (by omega) (by omega)).mono ?_
  rintro e w3 ⟨k3, rfl, hk3, hR3, hG3⟩
  obtain ⟨hc, hf, hz, hs⟩ := gcell hG3
  (try simp only [World.size_alloc, World.size_setCell, World.size_drew, size_drewN] at hs); (first | have l0 := Nat.lt_of_lt_of_le l0 (show _ ≤ w3.heap.size by omega) | have l0 : w.heap.size < w3.heap.size := (by omega) | skip); (try have l0e := Nat.le_of_lt l0); (try have l0f := Nat.le_add_right_of_le (k := 1) l0e); (try have l1 := Nat.lt_of_lt_of_le l1 (show _ ≤ w3.heap.size by omega)); (try have l1e := Nat.le_of_lt l1); (try have l1f := Nat.le_add_right_of_le (k := 1) l1e); (try have l2 := Nat.lt_of_lt_of_le l2 (show _ ≤ w3.heap.size by omega)); (try have l2e := Nat.le_of_lt l2); (try have l2f := Nat.le_add_right_of_le (k := 1) l2e); (try have l3 := Nat.lt_of_lt_of_le l3 (show _ ≤ w3.heap.size by omega)); (try have l3e := Nat.le_of_lt l3); (try have l3f := Nat.le_add_right_of_le (k := 1) l3e)
  go_wp2_with (fail)
  go_at_call 65
  refine (pick_c r (P + 3) 99 _ hR3 (by omega) (by omega) (by omega)).mono ?_
  rintro e w4 ⟨k4, rfl, hk4, hR4, hG4⟩
  obtain ⟨hc, hf, hz, hs⟩ := gcell hG4
  (try simp only [World.size_alloc, World.size_setCell, World.size_drew, size_drewN] at hs); (first | have l0 := Nat.lt_of_lt_of_le l0 (show _ ≤ w4.heap.size by omega) | have l0 : w.heap.size < w4.heap.size := (by omega) | skip); (try have l0e := Nat.le_of_lt l0); (try have l0f := Nat.le_add_right_of_le (k := 1) l0e); (try have l1 := Nat.lt_of_lt_of_le l1 (show _ ≤ w4.heap.size by omega)); (try have l1e := Nat.le_of_lt l1); (try have l1f := Nat.le_add_right_of_le (k := 1) l1e); (try have l2 := Nat.lt_of_lt_of_le l2 (show _ ≤ w4.heap.size by omega)); (try have l2e := Nat.le_of_lt l2); (try have l2f := Nat.le_add_right_of_le (k := 1) l2e); (try have l3 := Nat.lt_of_lt_of_le l3 (show _ ≤ w4.heap.size by omega)); (try have l3e := Nat.le_of_lt l3); (try have l3f := Nat.le_add_right_of_le (k := 1) l3e)
  have hr4 := hR4.lt
  go_wp2_with (fail)
  go_at_call 65
  refine (pick_c r (P + 4) 3 _ (hR4.ext (by (repeat' (first | (with_reducible exact Below.refl _ _) | (with_reducible refine Below.mono (by assumption) ?_) | (with_reducible refine Below.trans ?_ (Below.mono (by assumption) ?_)) | (with_reducible refine Below.alloc ?_ ?_ _) | (with_reducible refine Below.drew ?_) | (with_reducible refine below_drewN ?_ _) | (with_reducible refine Below.setCell ?_ ?_ _) | (simp only [World.size_alloc, World.size_setCell, World.size_drew, size_drewN]; omega) | omega)))) (by omega) (by omega) (by omega)).mono ?_
  rintro e w5 ⟨k5, rfl, hk5, hR5, hG5⟩
  obtain ⟨hc, hf, hz, hs⟩ := gcell hG5
  (try simp only [World.size_alloc, World.size_setCell, World.size_drew, size_drewN] at hs); (first | have l0 := Nat.lt_of_lt_of_le l0 (show _ ≤ w5.heap.size by omega) | have l0 : w.heap.size < w5.heap.size := (by omega) | skip); (try have l0e := Nat.le_of_lt l0); (try have l0f := Nat.le_add_right_of_le (k := 1) l0e); (try have l1 := Nat.lt_of_lt_of_le l1 (show _ ≤ w5.heap.size by omega)); (try have l1e := Nat.le_of_lt l1); (try have l1f := Nat.le_add_right_of_le (k := 1) l1e); (try have l2 := Nat.lt_of_lt_of_le l2 (show _ ≤ w5.heap.size by omega)); (try have l2e := Nat.le_of_lt l2); (try have l2f := Nat.le_add_right_of_le (k := 1) l2e); (try have l3 := Nat.lt_of_lt_of_le l3 (show _ ≤ w5.heap.size by omega)); (try have l3e := Nat.le_of_lt l3); (try have l3f := Nat.le_add_right_of_le (k := 1) l3e)
  have q5 := hk5 (by omega)
  obtain ⟨z, hz5, hzc⟩ := lit_three w4 (1 + k3) (1 + k4) 0 3 k5 (by omega)
  have q1 := hk1 (by omega)
  have q2 := hk2 (by omega)
  have q3 := hk3 (by omega)
  have q4 := hk4 (by omega)
  have hr5 := hR5.lt
  have hi5 : (k5 : Int) < 3 := q5
  have hz5' : w5.cell? ⟨w4.heap.size, k5, none⟩ = some (.int .i64 z) := by
    rw [hc _ _ (by simp) (by omega)]
    exact hz5
  have HB05 := grown_trans (grown_trans (grown_trans (grown_trans hG1 hG2) hG3) hG4) (grown_trans (grown_ext (by (repeat' (first | (with_reducible exact Below.refl _ _) | (with_reducible refine Below.mono (by assumption) ?_) | (with_reducible refine Below.trans ?_ (Below.mono (by assumption) ?_)) | (with_reducible refine Below.alloc ?_ ?_ _) | (with_reducible refine Below.drew ?_) | (with_reducible refine below_drewN ?_ _) | (with_reducible refine Below.setCell ?_ ?_ _) | (simp only [World.size_alloc, World.size_setCell, World.size_drew, size_drewN]; omega) | omega))) _) hG5)
  have G5 : w.grownBy w5 (some r) := grown_trans (grown_ext (by (repeat' (first | (with_reducible exact Below.refl _ _) | (with_reducible refine Below.mono (by assumption) ?_) | (with_reducible refine Below.trans ?_ (Below.mono (by assumption) ?_)) | (with_reducible refine Below.alloc ?_ ?_ _) | (with_reducible refine Below.drew ?_) | (with_reducible refine below_drewN ?_ _) | (with_reducible refine Below.setCell ?_ ?_ _) | (simp only [World.size_alloc, World.size_setCell, World.size_drew, size_drewN]; omega) | omega))) _) HB05
  have HB05 := Lib.hid HB05
  have hzl : -1000 ≤ z := by omega
  have hzu : z ≤ 1000 := by omega
  have hG := Lib.hid G5
  have hw5 : w.heap.size ≤ w5.heap.size := G5.size
  clear hc hf hz G5 hG1 hG2 hG3 hG4 hG5 hzc hz5 hk1 hk2 hk3 hk4 hk5 hR1 hR2 hR3 hR4
  have hB05 : Blk w5 w.heap.size 34 #[.int .i64 0, .int .i64 0, .int .i64 0] := blkg (Blk.new w _ _) HB05.out (by omega)
  rcases (show (k1 = 0) ∨ (k1 = 1 ∧ z = 0) ∨ (k1 = 1 ∧ z ≠ 0) by omega) with h1 | ⟨h1, h2⟩ | ⟨h1, h2⟩
  case inr.inr =>
    have h3 : (z == 0) = false := by simpa using h2
    obtain rfl := h1
    have hB5 : Blk (w5.alloc (.cells #[.int .i64 2, .int .i64 k2, .int .i64 z] 34)) w5.heap.size 34 #[.int .i64 2, .int .i64 k2, .int .i64 z] := Blk.new _ _ _
    have HV5 : Hid (SmallOp ⟨2, k2, z⟩) := Lib.hid (smallOp (by omega) (by omega) (by omega) (by omega) (by omega) (by omega))
    have hE5 : Ext w5 (w5.alloc (.cells #[.int .i64 2, .int .i64 k2, .int .i64 z] 34)) := by (repeat' (first | (with_reducible exact Below.refl _ _) | (with_reducible refine Below.mono (by assumption) ?_) | (with_reducible refine Below.trans ?_ (Below.mono (by assumption) ?_)) | (with_reducible refine Below.alloc ?_ ?_ _) | (with_reducible refine Below.drew ?_) | (with_reducible refine below_drewN ?_ _) | (with_reducible refine Below.setCell ?_ ?_ _) | (simp only [World.size_alloc, World.size_setCell, World.size_drew, size_drewN]; omega) | omega))
    go_wp2_with (fail)
    go_at_call 72
    refine (odd_c r (P + 5) n (w5.alloc (.cells #[.int .i64 2, .int .i64 k2, .int .i64 z] 34)) (hR5.ext hE5) (by omega) (by omega) (by omega)).mono ?_
    rintro e w6 ⟨b6, rfl, hR6, hG6⟩
    obtain ⟨hc, hf, hz, hs⟩ := gcell hG6
    (try simp only [World.size_alloc, World.size_setCell, World.size_drew, size_drewN] at hs); (first | have l0 := Nat.lt_of_lt_of_le l0 (show _ ≤ w6.heap.size by omega) | have l0 : w.heap.size < w6.heap.size := (by omega) | skip); (try have l0e := Nat.le_of_lt l0); (try have l0f := Nat.le_add_right_of_le (k := 1) l0e); (try have l1 := Nat.lt_of_lt_of_le l1 (show _ ≤ w6.heap.size by omega)); (try have l1e := Nat.le_of_lt l1); (try have l1f := Nat.le_add_right_of_le (k := 1) l1e); (try have l2 := Nat.lt_of_lt_of_le l2 (show _ ≤ w6.heap.size by omega)); (try have l2e := Nat.le_of_lt l2); (try have l2f := Nat.le_add_right_of_le (k := 1) l2e); (try have l3 := Nat.lt_of_lt_of_le l3 (show _ ≤ w6.heap.size by omega)); (try have l3e := Nat.le_of_lt l3); (try have l3f := Nat.le_add_right_of_le (k := 1) l3e)
    have hG65 := grown_trans (grown_ext hE5 (some r)) hG6
    have hB6 := blkg hB5 hG6 (by omega)
    have hB06 := blkg hB05 hG65 (by omega)
    have hW6 : w5.heap.size < w6.heap.size := hB6.lt
    have hGG := Lib.hid (grown_trans hG.out hG65)
    clear hG6 hB5 hG65 hE5 hG hc hf hz
    have z0 := hB06.cell 0
    have z1 := hB06.cell 1
    have z2 := hB06.cell 2
    have zf := hB06.frozen
    simp only [List.getElem?_toArray, List.getElem?_cons_zero, List.getElem?_cons_succ] at z0 z1 z2
    cases b6
    · have c0 := hB6.cell 0
      have c1 := hB6.cell 1
      have c2 := hB6.cell 2
      simp only [List.getElem?_toArray, List.getElem?_cons_zero, List.getElem?_cons_succ] at c0 c1 c2
      go_wp2
      have hF := ((hB06.set_ 0 (.int .i64 2)).set_ 1 (.int .i64 k2)).set_ 2 (.int .i64 z)
      have f0 := hF.cell 0
      have f1 := hF.cell 1
      have f2 := hF.cell 2
      simp only [List.setIfInBounds_toArray, List.set_cons_zero, List.set_cons_succ, List.getElem?_toArray, List.getElem?_cons_zero, List.getElem?_cons_succ] at f0 f1 f2
      exact bodyPost_ret (v := .agg #[.int .i64 2, .int .i64 k2, .int .i64 z]) (by simp [results, Tryd.results73, go_sem, f0, f1, f2]) rfl (drawn_end (hR6.mono (by omega)) (by omega) hGG.out (Nat.le_refl _) HV5.out)
    · have hr6 := hR6.lt
      go_wp2_with (fail)
      go_at_call 65
      refine (pick_c r (P + 6) 7 _ (hR6.ext (by (repeat' (first | (with_reducible exact Below.refl _ _) | (with_reducible refine Below.mono (by assumption) ?_) | (with_reducible refine Below.trans ?_ (Below.mono (by assumption) ?_)) | (with_reducible refine Below.alloc ?_ ?_ _) | (with_reducible refine Below.drew ?_) | (with_reducible refine below_drewN ?_ _) | (with_reducible refine Below.setCell ?_ ?_ _) | (simp only [World.size_alloc, World.size_setCell, World.size_drew, size_drewN]; omega) | omega)))) (by omega) (by omega) (by omega)).mono ?_
      rintro e w7 ⟨k7, rfl, hk7, hR7, hG7⟩
      obtain ⟨hc, hf, hz, hs⟩ := gcell hG7
      (try simp only [World.size_alloc, World.size_setCell, World.size_drew, size_drewN] at hs); (first | have l0 := Nat.lt_of_lt_of_le l0 (show _ ≤ w7.heap.size by omega) | have l0 : w.heap.size < w7.heap.size := (by omega) | skip); (try have l0e := Nat.le_of_lt l0); (try have l0f := Nat.le_add_right_of_le (k := 1) l0e); (try have l1 := Nat.lt_of_lt_of_le l1 (show _ ≤ w7.heap.size by omega)); (try have l1e := Nat.le_of_lt l1); (try have l1f := Nat.le_add_right_of_le (k := 1) l1e); (try have l2 := Nat.lt_of_lt_of_le l2 (show _ ≤ w7.heap.size by omega)); (try have l2e := Nat.le_of_lt l2); (try have l2f := Nat.le_add_right_of_le (k := 1) l2e); (try have l3 := Nat.lt_of_lt_of_le l3 (show _ ≤ w7.heap.size by omega)); (try have l3e := Nat.le_of_lt l3); (try have l3f := Nat.le_add_right_of_le (k := 1) l3e)
      have q7 := hk7 (by omega)
      have hr7 := hR7.lt
      obtain ⟨a, b, c, s0, s1, s2, hs7⟩ := seven_at k7 (by omega)
      have hB7 := blkg (Blk.new w6 34 seven) hG7 (by omega)
      have hB07 := blkg (hB06.alloc _) hG7 (by omega)
      rw [← hB7.cell] at s0 s1 s2
      have y0 := hB07.cell 0
      have y1 := hB07.cell 1
      have y2 := hB07.cell 2
      have yf := hB07.frozen
      simp only [List.getElem?_toArray, List.getElem?_cons_zero, List.getElem?_cons_succ] at y0 y1 y2
      have hF := ((hB07.set_ 0 (.int .i64 a)).set_ 1 (.int .i64 b)).set_ 2 (.int .i64 c)
      have f0 := hF.cell 0
      have f1 := hF.cell 1
      have f2 := hF.cell 2
      have hGF := Lib.hid (grown_trans hGG.out (grown_trans (grown_ext (by (repeat' (first | (with_reducible exact Below.refl _ _) | (with_reducible refine Below.mono (by assumption) ?_) | (with_reducible refine Below.trans ?_ (Below.mono (by assumption) ?_)) | (with_reducible refine Below.alloc ?_ ?_ _) | (with_reducible refine Below.drew ?_) | (with_reducible refine below_drewN ?_ _) | (with_reducible refine Below.setCell ?_ ?_ _) | (simp only [World.size_alloc, World.size_setCell, World.size_drew, size_drewN]; omega) | omega))) (some r)) hG7))
      simp only [List.setIfInBounds_toArray, List.set_cons_zero, List.set_cons_succ, List.getElem?_toArray, List.getElem?_cons_zero, List.getElem?_cons_succ] at f0 f1 f2
      have hFF := Lib.hid (And.intro f0 (And.intro f1 f2))
      clear z0 z1 z2 zf hc hf hz hB7 hB06 hB6 hG7 f0 f1 f2
      go_wp2
      obtain ⟨f0, f1, f2⟩ := hFF.out
      exact bodyPost_ret (v := .agg #[.int .i64 a, .int .i64 b, .int .i64 c]) (by simp [results, Tryd.results73, go_sem, f0, f1, f2]) rfl (drawn_end (hR7.mono (by omega)) (by omega) hGF.out (Nat.le_refl _) hs7)
  case inl =>
    obtain rfl := h1
    have hB5 : Blk (w5.alloc (.cells #[.int .i64 1, .int .i64 k2, .int .i64 z] 34)) w5.heap.size 34 #[.int .i64 1, .int .i64 k2, .int .i64 z] := Blk.new _ _ _
    have HV5 : Hid (SmallOp ⟨1, k2, z⟩) := Lib.hid (smallOp (by omega) (by omega) (by omega) (by omega) (by omega) (by omega))
    have hE5 : Ext w5 (w5.alloc (.cells #[.int .i64 1, .int .i64 k2, .int .i64 z] 34)) := by (repeat' (first | (with_reducible exact Below.refl _ _) | (with_reducible refine Below.mono (by assumption) ?_) | (with_reducible refine Below.trans ?_ (Below.mono (by assumption) ?_)) | (with_reducible refine Below.alloc ?_ ?_ _) | (with_reducible refine Below.drew ?_) | (with_reducible refine below_drewN ?_ _) | (with_reducible refine Below.setCell ?_ ?_ _) | (simp only [World.size_alloc, World.size_setCell, World.size_drew, size_drewN]; omega) | omega))
    go_wp2_with (fail)
    go_at_call 72
    refine (odd_c r (P + 5) n (w5.alloc (.cells #[.int .i64 1, .int .i64 k2, .int .i64 z] 34)) (hR5.ext hE5) (by omega) (by omega) (by omega)).mono ?_
    rintro e w6 ⟨b6, rfl, hR6, hG6⟩
    obtain ⟨hc, hf, hz, hs⟩ := gcell hG6
    (try simp only [World.size_alloc, World.size_setCell, World.size_drew, size_drewN] at hs); (first | have l0 := Nat.lt_of_lt_of_le l0 (show _ ≤ w6.heap.size by omega) | have l0 : w.heap.size < w6.heap.size := (by omega) | skip); (try have l0e := Nat.le_of_lt l0); (try have l0f := Nat.le_add_right_of_le (k := 1) l0e); (try have l1 := Nat.lt_of_lt_of_le l1 (show _ ≤ w6.heap.size by omega)); (try have l1e := Nat.le_of_lt l1); (try have l1f := Nat.le_add_right_of_le (k := 1) l1e); (try have l2 := Nat.lt_of_lt_of_le l2 (show _ ≤ w6.heap.size by omega)); (try have l2e := Nat.le_of_lt l2); (try have l2f := Nat.le_add_right_of_le (k := 1) l2e); (try have l3 := Nat.lt_of_lt_of_le l3 (show _ ≤ w6.heap.size by omega)); (try have l3e := Nat.le_of_lt l3); (try have l3f := Nat.le_add_right_of_le (k := 1) l3e)
    have hG65 := grown_trans (grown_ext hE5 (some r)) hG6
    have hB6 := blkg hB5 hG6 (by omega)
    have hB06 := blkg hB05 hG65 (by omega)
    have hW6 : w5.heap.size < w6.heap.size := hB6.lt
    have hGG := Lib.hid (grown_trans hG.out hG65)
    clear hG6 hB5 hG65 hE5 hG hc hf hz
    have z0 := hB06.cell 0
    have z1 := hB06.cell 1
    have z2 := hB06.cell 2
    have zf := hB06.frozen
    simp only [List.getElem?_toArray, List.getElem?_cons_zero, List.getElem?_cons_succ] at z0 z1 z2
    cases b6
    · have c0 := hB6.cell 0
      have c1 := hB6.cell 1
      have c2 := hB6.cell 2
      simp only [List.getElem?_toArray, List.getElem?_cons_zero, List.getElem?_cons_succ] at c0 c1 c2
      go_wp2
      have hF := ((hB06.set_ 0 (.int .i64 1)).set_ 1 (.int .i64 k2)).set_ 2 (.int .i64 z)
      have f0 := hF.cell 0
      have f1 := hF.cell 1
      have f2 := hF.cell 2
      simp only [List.setIfInBounds_toArray, List.set_cons_zero, List.set_cons_succ, List.getElem?_toArray, List.getElem?_cons_zero, List.getElem?_cons_succ] at f0 f1 f2
      exact bodyPost_ret (v := .agg #[.int .i64 1, .int .i64 k2, .int .i64 z]) (by simp [results, Tryd.results73, go_sem, f0, f1, f2]) rfl (drawn_end (hR6.mono (by omega)) (by omega) hGG.out (Nat.le_refl _) HV5.out)
    · have hr6 := hR6.lt
      go_wp2_with (fail)
      go_at_call 65
      refine (pick_c r (P + 6) 7 _ (hR6.ext (by (repeat' (first | (with_reducible exact Below.refl _ _) | (with_reducible refine Below.mono (by assumption) ?_) | (with_reducible refine Below.trans ?_ (Below.mono (by assumption) ?_)) | (with_reducible refine Below.alloc ?_ ?_ _) | (with_reducible refine Below.drew ?_) | (with_reducible refine below_drewN ?_ _) | (with_reducible refine Below.setCell ?_ ?_ _) | (simp only [World.size_alloc, World.size_setCell, World.size_drew, size_drewN]; omega) | omega)))) (by omega) (by omega) (by omega)).mono ?_
      rintro e w7 ⟨k7, rfl, hk7, hR7, hG7⟩
      obtain ⟨hc, hf, hz, hs⟩ := gcell hG7
      (try simp only [World.size_alloc, World.size_setCell, World.size_drew, size_drewN] at hs); (first | have l0 := Nat.lt_of_lt_of_le l0 (show _ ≤ w7.heap.size by omega) | have l0 : w.heap.size < w7.heap.size := (by omega) | skip); (try have l0e := Nat.le_of_lt l0); (try have l0f := Nat.le_add_right_of_le (k := 1) l0e); (try have l1 := Nat.lt_of_lt_of_le l1 (show _ ≤ w7.heap.size by omega)); (try have l1e := Nat.le_of_lt l1); (try have l1f := Nat.le_add_right_of_le (k := 1) l1e); (try have l2 := Nat.lt_of_lt_of_le l2 (show _ ≤ w7.heap.size by omega)); (try have l2e := Nat.le_of_lt l2); (try have l2f := Nat.le_add_right_of_le (k := 1) l2e); (try have l3 := Nat.lt_of_lt_of_le l3 (show _ ≤ w7.heap.size by omega)); (try have l3e := Nat.le_of_lt l3); (try have l3f := Nat.le_add_right_of_le (k := 1) l3e)
      have q7 := hk7 (by omega)
      have hr7 := hR7.lt
      obtain ⟨a, b, c, s0, s1, s2, hs7⟩ := seven_at k7 (by omega)
      have hB7 := blkg (Blk.new w6 34 seven) hG7 (by omega)
      have hB07 := blkg (hB06.alloc _) hG7 (by omega)
      rw [← hB7.cell] at s0 s1 s2
      have y0 := hB07.cell 0
      have y1 := hB07.cell 1
      have y2 := hB07.cell 2
      have yf := hB07.frozen
      simp only [List.getElem?_toArray, List.getElem?_cons_zero, List.getElem?_cons_succ] at y0 y1 y2
      have hF := ((hB07.set_ 0 (.int .i64 a)).set_ 1 (.int .i64 b)).set_ 2 (.int .i64 c)
      have f0 := hF.cell 0
      have f1 := hF.cell 1
      have f2 := hF.cell 2
      have hGF := Lib.hid (grown_trans hGG.out (grown_trans (grown_ext (by (repeat' (first | (with_reducible exact Below.refl _ _) | (with_reducible refine Below.mono (by assumption) ?_) | (with_reducible refine Below.trans ?_ (Below.mono (by assumption) ?_)) | (with_reducible refine Below.alloc ?_ ?_ _) | (with_reducible refine Below.drew ?_) | (with_reducible refine below_drewN ?_ _) | (with_reducible refine Below.setCell ?_ ?_ _) | (simp only [World.size_alloc, World.size_setCell, World.size_drew, size_drewN]; omega) | omega))) (some r)) hG7))
      simp only [List.setIfInBounds_toArray, List.set_cons_zero, List.set_cons_succ, List.getElem?_toArray, List.getElem?_cons_zero, List.getElem?_cons_succ] at f0 f1 f2
      have hFF := Lib.hid (And.intro f0 (And.intro f1 f2))
      clear z0 z1 z2 zf hc hf hz hB7 hB06 hB6 hG7 f0 f1 f2
      go_wp2
      obtain ⟨f0, f1, f2⟩ := hFF.out
      exact bodyPost_ret (v := .agg #[.int .i64 a, .int .i64 b, .int .i64 c]) (by simp [results, Tryd.results73, go_sem, f0, f1, f2]) rfl (drawn_end (hR7.mono (by omega)) (by omega) hGF.out (Nat.le_refl _) hs7)
  case inr.inl =>
    obtain rfl := h1
    obtain rfl := h2
    have hB5 : Blk (w5.alloc (.cells #[.int .i64 2, .int .i64 k2, .int .i64 99] 34)) w5.heap.size 34 #[.int .i64 2, .int .i64 k2, .int .i64 99] := Blk.new _ _ _
    have HV5 : Hid (SmallOp ⟨2, k2, 99⟩) := Lib.hid (smallOp (by omega) (by omega) (by omega) (by omega) (by omega) (by omega))
    have hE5 : Ext w5 (w5.alloc (.cells #[.int .i64 2, .int .i64 k2, .int .i64 99] 34)) := by (repeat' (first | (with_reducible exact Below.refl _ _) | (with_reducible refine Below.mono (by assumption) ?_) | (with_reducible refine Below.trans ?_ (Below.mono (by assumption) ?_)) | (with_reducible refine Below.alloc ?_ ?_ _) | (with_reducible refine Below.drew ?_) | (with_reducible refine below_drewN ?_ _) | (with_reducible refine Below.setCell ?_ ?_ _) | (simp only [World.size_alloc, World.size_setCell, World.size_drew, size_drewN]; omega) | omega))
    go_wp2_with (fail)
    go_at_call 72
    refine (odd_c r (P + 5) n (w5.alloc (.cells #[.int .i64 2, .int .i64 k2, .int .i64 99] 34)) (hR5.ext hE5) (by omega) (by omega) (by omega)).mono ?_
    rintro e w6 ⟨b6, rfl, hR6, hG6⟩
    obtain ⟨hc, hf, hz, hs⟩ := gcell hG6
    (try simp only [World.size_alloc, World.size_setCell, World.size_drew, size_drewN] at hs); (first | have l0 := Nat.lt_of_lt_of_le l0 (show _ ≤ w6.heap.size by omega) | have l0 : w.heap.size < w6.heap.size := (by omega) | skip); (try have l0e := Nat.le_of_lt l0); (try have l0f := Nat.le_add_right_of_le (k := 1) l0e); (try have l1 := Nat.lt_of_lt_of_le l1 (show _ ≤ w6.heap.size by omega)); (try have l1e := Nat.le_of_lt l1); (try have l1f := Nat.le_add_right_of_le (k := 1) l1e); (try have l2 := Nat.lt_of_lt_of_le l2 (show _ ≤ w6.heap.size by omega)); (try have l2e := Nat.le_of_lt l2); (try have l2f := Nat.le_add_right_of_le (k := 1) l2e); (try have l3 := Nat.lt_of_lt_of_le l3 (show _ ≤ w6.heap.size by omega)); (try have l3e := Nat.le_of_lt l3); (try have l3f := Nat.le_add_right_of_le (k := 1) l3e)
    have hG65 := grown_trans (grown_ext hE5 (some r)) hG6
    have hB6 := blkg hB5 hG6 (by omega)
    have hB06 := blkg hB05 hG65 (by omega)
    have hW6 : w5.heap.size < w6.heap.size := hB6.lt
    have hGG := Lib.hid (grown_trans hG.out hG65)
    clear hG6 hB5 hG65 hE5 hG hc hf hz
    have z0 := hB06.cell 0
    have z1 := hB06.cell 1
    have z2 := hB06.cell 2
    have zf := hB06.frozen
    simp only [List.getElem?_toArray, List.getElem?_cons_zero, List.getElem?_cons_succ] at z0 z1 z2
    cases b6
    · have c0 := hB6.cell 0
      have c1 := hB6.cell 1
      have c2 := hB6.cell 2
      simp only [List.getElem?_toArray, List.getElem?_cons_zero, List.getElem?_cons_succ] at c0 c1 c2
      go_wp2
      have hF := ((hB06.set_ 0 (.int .i64 2)).set_ 1 (.int .i64 k2)).set_ 2 (.int .i64 99)
      have f0 := hF.cell 0
      have f1 := hF.cell 1
      have f2 := hF.cell 2
      simp only [List.setIfInBounds_toArray, List.set_cons_zero, List.set_cons_succ, List.getElem?_toArray, List.getElem?_cons_zero, List.getElem?_cons_succ] at f0 f1 f2
      exact bodyPost_ret (v := .agg #[.int .i64 2, .int .i64 k2, .int .i64 99]) (by simp [results, Tryd.results73, go_sem, f0, f1, f2]) rfl (drawn_end (hR6.mono (by omega)) (by omega) hGG.out (Nat.le_refl _) HV5.out)
    · have hr6 := hR6.lt
      go_wp2_with (fail)
      go_at_call 65
      refine (pick_c r (P + 6) 7 _ (hR6.ext (by (repeat' (first | (with_reducible exact Below.refl _ _) | (with_reducible refine Below.mono (by assumption) ?_) | (with_reducible refine Below.trans ?_ (Below.mono (by assumption) ?_)) | (with_reducible refine Below.alloc ?_ ?_ _) | (with_reducible refine Below.drew ?_) | (with_reducible refine below_drewN ?_ _) | (with_reducible refine Below.setCell ?_ ?_ _) | (simp only [World.size_alloc, World.size_setCell, World.size_drew, size_drewN]; omega) | omega)))) (by omega) (by omega) (by omega)).mono ?_
      rintro e w7 ⟨k7, rfl, hk7, hR7, hG7⟩
      obtain ⟨hc, hf, hz, hs⟩ := gcell hG7
      (try simp only [World.size_alloc, World.size_setCell, World.size_drew, size_drewN] at hs); (first | have l0 := Nat.lt_of_lt_of_le l0 (show _ ≤ w7.heap.size by omega) | have l0 : w.heap.size < w7.heap.size := (by omega) | skip); (try have l0e := Nat.le_of_lt l0); (try have l0f := Nat.le_add_right_of_le (k := 1) l0e); (try have l1 := Nat.lt_of_lt_of_le l1 (show _ ≤ w7.heap.size by omega)); (try have l1e := Nat.le_of_lt l1); (try have l1f := Nat.le_add_right_of_le (k := 1) l1e); (try have l2 := Nat.lt_of_lt_of_le l2 (show _ ≤ w7.heap.size by omega)); (try have l2e := Nat.le_of_lt l2); (try have l2f := Nat.le_add_right_of_le (k := 1) l2e); (try have l3 := Nat.lt_of_lt_of_le l3 (show _ ≤ w7.heap.size by omega)); (try have l3e := Nat.le_of_lt l3); (try have l3f := Nat.le_add_right_of_le (k := 1) l3e)
      have q7 := hk7 (by omega)
      have hr7 := hR7.lt
      obtain ⟨a, b, c, s0, s1, s2, hs7⟩ := seven_at k7 (by omega)
      have hB7 := blkg (Blk.new w6 34 seven) hG7 (by omega)
      have hB07 := blkg (hB06.alloc _) hG7 (by omega)
      rw [← hB7.cell] at s0 s1 s2
      have y0 := hB07.cell 0
      have y1 := hB07.cell 1
      have y2 := hB07.cell 2
      have yf := hB07.frozen
      simp only [List.getElem?_toArray, List.getElem?_cons_zero, List.getElem?_cons_succ] at y0 y1 y2
      have hF := ((hB07.set_ 0 (.int .i64 a)).set_ 1 (.int .i64 b)).set_ 2 (.int .i64 c)
      have f0 := hF.cell 0
      have f1 := hF.cell 1
      have f2 := hF.cell 2
      have hGF := Lib.hid (grown_trans hGG.out (grown_trans (grown_ext (by (repeat' (first | (with_reducible exact Below.refl _ _) | (with_reducible refine Below.mono (by assumption) ?_) | (with_reducible refine Below.trans ?_ (Below.mono (by assumption) ?_)) | (with_reducible refine Below.alloc ?_ ?_ _) | (with_reducible refine Below.drew ?_) | (with_reducible refine below_drewN ?_ _) | (with_reducible refine Below.setCell ?_ ?_ _) | (simp only [World.size_alloc, World.size_setCell, World.size_drew, size_drewN]; omega) | omega))) (some r)) hG7))
      simp only [List.setIfInBounds_toArray, List.set_cons_zero, List.set_cons_succ, List.getElem?_toArray, List.getElem?_cons_zero, List.getElem?_cons_succ] at f0 f1 f2
      have hFF := Lib.hid (And.intro f0 (And.intro f1 f2))
      clear z0 z1 z2 zf hc hf hz hB7 hB06 hB6 hG7 f0 f1 f2
      go_wp2
      obtain ⟨f0, f1, f2⟩ := hFF.out
      exact bodyPost_ret (v := .agg #[.int .i64 a, .int .i64 b, .int .i64 c]) (by simp [results, Tryd.results73, go_sem, f0, f1, f2]) rfl (drawn_end (hR7.mono (by omega)) (by omega) hGF.out (Nat.le_refl _) hs7)
end Go.Proofs.YtdgfipoibnjhaaaDoor

/-
  A drawn text.
-/
import Derived.Test.YtdidlffbobgejaaDoorDrawOp
import Derived.Test.YtdidlffbobgejaaDoorRdEq
import Derived.Test.YtdidlffbobgejaaDoorText
namespace Go.Proofs.YtdidlffbobgejaaDoor
set_option linter.unusedSimpArgs false
set_option linter.unusedVariables false
set_option maxRecDepth 100000
open Go.RowKit

/-- a drawn text: some short string -/
def DrewS (w : World) (e : Ending) (w' : World) : Prop := ∃ s : ByteArray, e = .returned (.string s) ∧ s.size ≤ 20 ∧ Ext w w'
theorem twelve_at (s : ByteArray) (hs : s.size ≤ 20) (k : Nat) (hk : k < 12) : ∃ x : ByteArray, (#[.string ⟨#[]⟩, .string ⟨#[114, 48]⟩, .string ⟨#[114, 48, 61]⟩, .string ⟨#[119, 48, 61, 48]⟩, .string ⟨#[114, 51, 61, 49]⟩, .string ⟨#[114, 48, 61, 49, 48, 48]⟩, .string ⟨#[114, 48, 61, 48, 49]⟩, .string ⟨#[120, 48, 61, 49]⟩, .string ⟨#[114, 48, 58, 49]⟩, .string s, .string ⟨#[114, 48, 61, 45, 49]⟩, .string ⟨#[82, 48, 61, 49]⟩] : Array Value)[k]? = some (.string x) ∧ x.size ≤ 20 := by
  obtain rfl | rfl | rfl | rfl | rfl | rfl | rfl | rfl | rfl | rfl | rfl | rfl : k = 0 ∨ k = 1 ∨ k = 2 ∨ k = 3 ∨ k = 4 ∨ k = 5 ∨ k = 6 ∨ k = 7 ∨ k = 8 ∨ k = 9 ∨ k = 10 ∨ k = 11 := by omega
  all_goals first
    | exact ⟨_, rfl, hs⟩
    | exact ⟨_, rfl, by decide⟩
set_option maxHeartbeats 2000000 in
theorem DrawReadOp_c (xs : List Int) (A : Option Addr) (c : Nat) (w : World) (h : Byts Any w A xs) (hv : ∀ x ∈ xs, 0 ≤ x ∧ x ≤ 255) (hc : xs.length ≤ c) :
    Calls Tryd.prog 16 #[.slice A xs.length c] w (DrewS w) := by
  go_enter Tryd.func16, Tryd.ntmps16
  go_wp2_with (fail)
  go_at_call 32
  refine (l20Open_c xs A c _ (h.ext (by (repeat' (first | (with_reducible exact Below.refl _ _) | (with_reducible refine Below.mono (by assumption) ?_) | (with_reducible refine Below.trans ?_ (Below.mono (by assumption) ?_)) | (with_reducible refine Below.alloc ?_ ?_ _) | (with_reducible refine Below.drew ?_) | (with_reducible refine below_drewN ?_ _) | (with_reducible refine Below.setCell ?_ ?_ _) | (simp only [World.size_alloc, World.size_setCell, World.size_drew, size_drewN]; omega) | omega)))) hv hc).mono ?_
  rintro e w1 ⟨r, rfl, hr, hR, hb⟩
  obtain ⟨hc, hf, hz, hs⟩ := bcell hb
  (try simp only [World.size_alloc, World.size_setCell, World.size_drew, size_drewN] at hs); (first | have l0 := Nat.lt_of_lt_of_le l0 (show _ ≤ w1.heap.size by omega) | have l0 : w.heap.size < w1.heap.size := (by omega) | skip); (try have l0e := Nat.le_of_lt l0); (try have l0f := Nat.le_add_right_of_le (k := 1) l0e); (try have l1 := Nat.lt_of_lt_of_le l1 (show _ ≤ w1.heap.size by omega)); (try have l1e := Nat.le_of_lt l1); (try have l1f := Nat.le_add_right_of_le (k := 1) l1e); (try have l2 := Nat.lt_of_lt_of_le l2 (show _ ≤ w1.heap.size by omega)); (try have l2e := Nat.le_of_lt l2); (try have l2f := Nat.le_add_right_of_le (k := 1) l2e); (try have l3 := Nat.lt_of_lt_of_le l3 (show _ ≤ w1.heap.size by omega)); (try have l3e := Nat.le_of_lt l3); (try have l3f := Nat.le_add_right_of_le (k := 1) l3e)
  have hb_1 : Ext w w1 := by (repeat' (first | (with_reducible exact Below.refl _ _) | (with_reducible refine Below.mono (by assumption) ?_) | (with_reducible refine Below.trans ?_ (Below.mono (by assumption) ?_)) | (with_reducible refine Below.alloc ?_ ?_ _) | (with_reducible refine Below.drew ?_) | (with_reducible refine below_drewN ?_ _) | (with_reducible refine Below.setCell ?_ ?_ _) | (simp only [World.size_alloc, World.size_setCell, World.size_drew, size_drewN]; omega) | omega))
  go_wp2_with (fail)
  go_at_call 31
  refine (l20Op_c r 0 0 _ hR (by omega) (by omega) (by omega)).mono ?_
  rintro e w2 ⟨x, rfl, hx, hR2, hG⟩
  obtain ⟨hc, hf, hz, hs⟩ := gcell hG
  (try simp only [World.size_alloc, World.size_setCell, World.size_drew, size_drewN] at hs); (first | have l0 := Nat.lt_of_lt_of_le l0 (show _ ≤ w2.heap.size by omega) | have l0 : w.heap.size < w2.heap.size := (by omega) | skip); (try have l0e := Nat.le_of_lt l0); (try have l0f := Nat.le_add_right_of_le (k := 1) l0e); (try have l1 := Nat.lt_of_lt_of_le l1 (show _ ≤ w2.heap.size by omega)); (try have l1e := Nat.le_of_lt l1); (try have l1f := Nat.le_add_right_of_le (k := 1) l1e); (try have l2 := Nat.lt_of_lt_of_le l2 (show _ ≤ w2.heap.size by omega)); (try have l2e := Nat.le_of_lt l2); (try have l2f := Nat.le_add_right_of_le (k := 1) l2e); (try have l3 := Nat.lt_of_lt_of_le l3 (show _ ≤ w2.heap.size by omega)); (try have l3e := Nat.le_of_lt l3); (try have l3f := Nat.le_add_right_of_le (k := 1) l3e)
  have hE2 : Ext w w2 := grown_new hb_1 hr hG
  have hz := optx_sz x
  have CO : Hid (∀ w, Calls Tryd.prog 13 #[.agg #[.int .i64 x.a, .int .i64 x.b, .int .i64 x.c]] w fun e w' => e = .returned (.string (optx x)) ∧ Ext w w') := Lib.hid (specText_c x)
  generalize optx x = OX at hz CO
  clear hG hR hc hf
  go_wp2_with (fail)
  go_at_call 13
  refine (CO.out _).mono ?_
  rintro e w3 ⟨rfl, hb⟩
  obtain ⟨hc, hf, hz, hs⟩ := bcell hb
  (try simp only [World.size_alloc, World.size_setCell, World.size_drew, size_drewN] at hs); (first | have l0 := Nat.lt_of_lt_of_le l0 (show _ ≤ w3.heap.size by omega) | have l0 : w.heap.size < w3.heap.size := (by omega) | skip); (try have l0e := Nat.le_of_lt l0); (try have l0f := Nat.le_add_right_of_le (k := 1) l0e); (try have l1 := Nat.lt_of_lt_of_le l1 (show _ ≤ w3.heap.size by omega)); (try have l1e := Nat.le_of_lt l1); (try have l1f := Nat.le_add_right_of_le (k := 1) l1e); (try have l2 := Nat.lt_of_lt_of_le l2 (show _ ≤ w3.heap.size by omega)); (try have l2e := Nat.le_of_lt l2); (try have l2f := Nat.le_add_right_of_le (k := 1) l2e); (try have l3 := Nat.lt_of_lt_of_le l3 (show _ ≤ w3.heap.size by omega)); (try have l3e := Nat.le_of_lt l3); (try have l3f := Nat.le_add_right_of_le (k := 1) l3e)
  have hE3 := hE2.tr hb
  have hR3 := hR2.ext hb
  have hr3 : r < w3.heap.size := hR3.lt
  clear hR2 hc hf hb
  go_wp2_with (fail)
  go_at_call 38
  refine (odd_c r _ 3 _ hR3 (by omega) (by omega) (by omega)).mono ?_
  rintro e w4 ⟨bb, rfl, hR4, hG4⟩
  obtain ⟨hc, hf, hz, hs⟩ := gcell hG4
  (try simp only [World.size_alloc, World.size_setCell, World.size_drew, size_drewN] at hs); (first | have l0 := Nat.lt_of_lt_of_le l0 (show _ ≤ w4.heap.size by omega) | have l0 : w.heap.size < w4.heap.size := (by omega) | skip); (try have l0e := Nat.le_of_lt l0); (try have l0f := Nat.le_add_right_of_le (k := 1) l0e); (try have l1 := Nat.lt_of_lt_of_le l1 (show _ ≤ w4.heap.size by omega)); (try have l1e := Nat.le_of_lt l1); (try have l1f := Nat.le_add_right_of_le (k := 1) l1e); (try have l2 := Nat.lt_of_lt_of_le l2 (show _ ≤ w4.heap.size by omega)); (try have l2e := Nat.le_of_lt l2); (try have l2f := Nat.le_add_right_of_le (k := 1) l2e); (try have l3 := Nat.lt_of_lt_of_le l3 (show _ ≤ w4.heap.size by omega)); (try have l3e := Nat.le_of_lt l3); (try have l3f := Nat.le_add_right_of_le (k := 1) l3e)
  have hE4 : Ext w w4 := grown_new hE3 hr hG4
  have HE4 := Lib.hid hE4
  clear hc hf
  cases bb with
  | false =>
    go_wp2
    go_ret
    exact ⟨_, rfl, by omega, HE4.out⟩
  | true =>
    have e1 : (9223372036854775807 < OX.size + 1) = False := eq_false (by omega)
    have i1 : (OX.size + 1 > 9223372036854775807) = False := eq_false (by omega)
    have hL : ByteArray.size ⟨#[32]⟩ = 1 := rfl
    have hs2 : (OX ++ ⟨#[32]⟩).size ≤ 20 := by rw [ByteArray.size_append]; omega
    have HT := Lib.hid (twelve_at (OX ++ ⟨#[32]⟩) hs2)
    have hr4 := hR4.lt
    clear hG4
    go_wp2_with (fail)
    go_at_call 39
    refine (pick_c r _ 12 _ (hR4.ext (by (repeat' (first | (with_reducible exact Below.refl _ _) | (with_reducible refine Below.mono (by assumption) ?_) | (with_reducible refine Below.trans ?_ (Below.mono (by assumption) ?_)) | (with_reducible refine Below.alloc ?_ ?_ _) | (with_reducible refine Below.drew ?_) | (with_reducible refine below_drewN ?_ _) | (with_reducible refine Below.setCell ?_ ?_ _) | (simp only [World.size_alloc, World.size_setCell, World.size_drew, size_drewN]; omega) | omega)))) (by omega) (by omega) (by omega)).mono ?_
    rintro e w5 ⟨z, rfl, hz12, hR5, hG5⟩
    have hz12 := hz12 (by omega)
    have hzn : z < 12 := by omega
    obtain ⟨x, hx1, hx2⟩ := HT.out z hzn
    have hB := blkg (Blk.new w4 9 #[.string ⟨#[]⟩, .string ⟨#[114, 48]⟩, .string ⟨#[114, 48, 61]⟩, .string ⟨#[119, 48, 61, 48]⟩, .string ⟨#[114, 51, 61, 49]⟩, .string ⟨#[114, 48, 61, 49, 48, 48]⟩, .string ⟨#[114, 48, 61, 48, 49]⟩, .string ⟨#[120, 48, 61, 49]⟩, .string ⟨#[114, 48, 58, 49]⟩, .string (OX ++ ⟨#[32]⟩), .string ⟨#[114, 48, 61, 45, 49]⟩, .string ⟨#[82, 48, 61, 49]⟩]) hG5 (by omega)
    have hcell : w5.cell? ⟨w4.heap.size, z, none⟩ = some (.string x) := (hB.cell z).trans hx1
    have hE5 : Ext w w5 := grown_new (w1 := w4.alloc _) (Ext.tr HE4.out (by (repeat' (first | (with_reducible exact Below.refl _ _) | (with_reducible refine Below.mono (by assumption) ?_) | (with_reducible refine Below.trans ?_ (Below.mono (by assumption) ?_)) | (with_reducible refine Below.alloc ?_ ?_ _) | (with_reducible refine Below.drew ?_) | (with_reducible refine below_drewN ?_ _) | (with_reducible refine Below.setCell ?_ ?_ _) | (simp only [World.size_alloc, World.size_setCell, World.size_drew, size_drewN]; omega) | omega)))) hr hG5
    have HE5 := Lib.hid hE5
    clear hB hx1 hG5 hE5 hR5 HT
    go_wp2
    go_ret
    exact ⟨x, rfl, hx2, HE5.out⟩
end Go.Proofs.YtdidlffbobgejaaDoor

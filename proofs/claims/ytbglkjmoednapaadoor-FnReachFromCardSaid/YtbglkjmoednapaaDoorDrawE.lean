/-
  Contracts of drawn edges.
-/
import Derived.Test.YtbglkjmoednapaaDoorDraw
import Derived.Test.YtbglkjmoednapaaDoorInts
import Derived.Deep.CutRange
import Derived.Deep.CutBlock
namespace Go.Proofs.YtbglkjmoednapaaDoor
set_option linter.unusedSimpArgs false
set_option linter.unusedVariables false
set_option maxRecDepth 100000
open Go.RowKit

theorem infoEdgeD : (Tryd.prog.info? 48).map (fun i => (i.zero, i.size, i.bytes)) = some (some (.agg #[.int .i64 0, .int .i64 0, .int .i64 0]), 3, 24) := by kernel_rfl
theorem grown_sub {a b c : World} {row : Option Nat} {r : Nat} (h : a.grownBy b (some r)) (hg : b.grownBy c row) (hr : ∀ g, row = some g → a.heap.size ≤ g) : a.grownBy c (some r) :=
  ⟨hg.os.trans h.os, hg.tape.trans h.tape, hg.output.trans h.output, Nat.le_trans h.size hg.size, fun k hk hn => (hg.block k (Nat.lt_of_lt_of_le hk h.size) (fun e => by have := hr k e.symm; omega)).trans (h.block k hk hn)⟩
theorem own_lo {w : World} {base : Nat} {e : TypeId} {v : Value} {xs : List T3} (h : Own3 w base e v xs) {g : Nat} (hg : v.ownBlock = some g) : base ≤ g := by
  rcases h.2 with ⟨rfl, _⟩ | ⟨g', cap, cur, rfl, hb, _⟩
  · simp [Value.ownBlock] at hg
  · simp only [Value.ownBlock] at hg
    obtain rfl := Option.some.inj hg
    exact hb
theorem lit_cell' (w : World) (cs : Array Value) (t : TypeId) (k : Nat) : (w.alloc (.cells cs t)).cell? ⟨w.heap.size, k, none⟩ = cs[k]? := (Blk.new w t cs).cell k
theorem lit_kind (w : World) (t : TypeId) (k : Nat) (hk : k < 5) : ∃ z : Int, (w.alloc (.cells #[.int .i64 1, .int .i64 2, .int .i64 3, .int .i64 3, .int .i64 4] t)).cell? ⟨w.heap.size, k, none⟩ = some (.int .i64 z) := by
  rw [lit_cell']
  obtain rfl | rfl | rfl | rfl | rfl : k = 0 ∨ k = 1 ∨ k = 2 ∨ k = 3 ∨ k = 4 := by omega
  all_goals exact ⟨_, rfl⟩
theorem lit_pair (w : World) (t : TypeId) (a b : Int) (k : Nat) (hk : k < 2) : ∃ z : Int, (w.alloc (.cells #[.int .i64 a, .int .i64 b] t)).cell? ⟨w.heap.size, k, none⟩ = some (.int .i64 z) ∧ (z = a ∨ z = b) := by
  rw [lit_cell']
  obtain rfl | rfl : k = 0 ∨ k = 1 := by omega
  · exact ⟨a, rfl, .inl rfl⟩
  · exact ⟨b, rfl, .inr rfl⟩

/-- drawn edges: a small number of nodes, at most nine edges in a slice of the call's own -/
def DrawnE (r P : Nat) (w : World) (e : Ending) (w' : World) : Prop := ∃ (m : Int) (L : List T3) (v : Value), e = .returned (.tuple #[.int .i64 m, v]) ∧ Own3 w' w.heap.size 48 v L ∧ -1 ≤ m ∧ m ≤ 7 ∧ L.length ≤ 9 ∧ RdrB w' r (P + 60) ∧ w.grownBy w' (some r)
/-- the state at the loop's head and behind it -/
def EdSt (r P : Nat) (w : World) (n : Nat) (v : Value) (W : World) : Prop := ∃ (L : List T3) (PP : Nat), Own3 W w.heap.size 48 v L ∧ L.length ≤ n ∧ PP ≤ P ∧ RdrB W r PP ∧ w.grownBy W (some r)
theorem EdSt.pick {r P P' n : Nat} {w W W' : World} {v : Value} {L : List T3} (h : Own3 W w.heap.size 48 v L) (hG : W.grownBy W' (some r)) (hr : r < w.heap.size) : Own3 W' w.heap.size 48 v L := World.ownsRow.kept h hG (.inr (fun e => by have := own_lo h e; omega))
set_option maxHeartbeats 4000000 in
theorem l20Edges_c (r P : Nat) (n : Int) (w : World) (h : RdrB w r P) (hP : P ≤ 50000) (hn : -1000 ≤ n) (hn2 : n ≤ 1000) :
    Calls Tryd.prog 15 #[.pointer (some ⟨r, 0, none⟩), .int .i64 n] w (DrawnE r P w) := by
  have hr := h.lt
  go_enter Tryd.func15, Tryd.ntmps15
  go_wp2_with (fail)
  go_at_call 16
  refine (pick_c r P 7 _ (h.ext (by (repeat' (first | (with_reducible exact Below.refl _ _) | (with_reducible refine Below.mono (by assumption) ?_) | (with_reducible refine Below.trans ?_ (Below.mono (by assumption) ?_)) | (with_reducible refine Below.alloc ?_ ?_ _) | (with_reducible refine Below.drew ?_) | (with_reducible refine below_drewN ?_ _) | (with_reducible refine Below.setCell ?_ ?_ _) | (simp only [World.size_alloc, World.size_setCell, World.size_drew, size_drewN]; omega) | omega)))) (by omega) (by omega) (by omega)).mono ?_
  rintro e w1 ⟨m, rfl, hm, hR1, hG1⟩
  obtain ⟨hc, hf, hz, hs⟩ := gcell hG1
  (try simp only [World.size_alloc, World.size_setCell, World.size_drew, size_drewN] at hs); (first | have l0 := Nat.lt_of_lt_of_le l0 (show _ ≤ w1.heap.size by omega) | have l0 : w.heap.size < w1.heap.size := (by omega) | skip); (try have l0e := Nat.le_of_lt l0); (try have l0f := Nat.le_add_right_of_le (k := 1) l0e); (try have l1 := Nat.lt_of_lt_of_le l1 (show _ ≤ w1.heap.size by omega)); (try have l1e := Nat.le_of_lt l1); (try have l1f := Nat.le_add_right_of_le (k := 1) l1e); (try have l2 := Nat.lt_of_lt_of_le l2 (show _ ≤ w1.heap.size by omega)); (try have l2e := Nat.le_of_lt l2); (try have l2f := Nat.le_add_right_of_le (k := 1) l2e); (try have l3 := Nat.lt_of_lt_of_le l3 (show _ ≤ w1.heap.size by omega)); (try have l3e := Nat.le_of_lt l3); (try have l3f := Nat.le_add_right_of_le (k := 1) l3e)
  have hm' := hm (by omega)
  have hr1 := hR1.lt
  go_wp2_with (fail)
  go_at_call 16
  refine (pick_c r (P + 1) 9 _ (hR1.ext (by (repeat' (first | (with_reducible exact Below.refl _ _) | (with_reducible refine Below.mono (by assumption) ?_) | (with_reducible refine Below.trans ?_ (Below.mono (by assumption) ?_)) | (with_reducible refine Below.alloc ?_ ?_ _) | (with_reducible refine Below.drew ?_) | (with_reducible refine below_drewN ?_ _) | (with_reducible refine Below.setCell ?_ ?_ _) | (simp only [World.size_alloc, World.size_setCell, World.size_drew, size_drewN]; omega) | omega)))) (by omega) (by omega) (by omega)).mono ?_
  rintro e w2 ⟨k0, rfl, hk0, hR2, hG2⟩
  obtain ⟨hc, hf, hz, hs⟩ := gcell hG2
  (try simp only [World.size_alloc, World.size_setCell, World.size_drew, size_drewN] at hs); (first | have l0 := Nat.lt_of_lt_of_le l0 (show _ ≤ w2.heap.size by omega) | have l0 : w.heap.size < w2.heap.size := (by omega) | skip); (try have l0e := Nat.le_of_lt l0); (try have l0f := Nat.le_add_right_of_le (k := 1) l0e); (try have l1 := Nat.lt_of_lt_of_le l1 (show _ ≤ w2.heap.size by omega)); (try have l1e := Nat.le_of_lt l1); (try have l1f := Nat.le_add_right_of_le (k := 1) l1e); (try have l2 := Nat.lt_of_lt_of_le l2 (show _ ≤ w2.heap.size by omega)); (try have l2e := Nat.le_of_lt l2); (try have l2f := Nat.le_add_right_of_le (k := 1) l2e); (try have l3 := Nat.lt_of_lt_of_le l3 (show _ ≤ w2.heap.size by omega)); (try have l3e := Nat.le_of_lt l3); (try have l3f := Nat.le_add_right_of_le (k := 1) l3e)
  have hk0' := hk0 (by omega)
  have HH : EdSt r (P + 2) w 0 (.slice (some ⟨w1.heap.size, 0, none⟩) 0 0) w2 :=
    ⟨[], _, EdSt.pick (P := 0) (P' := 0) (n := 0) (Own3.made w1 #[] 0 rfl hG1.size (by omega) rfl) hG2 hr, Nat.le_refl _, Nat.le_refl _, hR2, grown_trans hG1 (grown_trans (grown_ext (show Ext w1 (w1.alloc (.cells #[] 48)) by (repeat' (first | (with_reducible exact Below.refl _ _) | (with_reducible refine Below.mono (by assumption) ?_) | (with_reducible refine Below.trans ?_ (Below.mono (by assumption) ?_)) | (with_reducible refine Below.alloc ?_ ?_ _) | (with_reducible refine Below.drew ?_) | (with_reducible refine below_drewN ?_ _) | (with_reducible refine Below.setCell ?_ ?_ _) | (simp only [World.size_alloc, World.size_setCell, World.size_drew, size_drewN]; omega) | omega))) (some r)) hG2)⟩
  have HS := Lib.hid HH
  clear HH hG1 hG2 hR1 hR2 hc hf hz h hm hk0
  go_upto_block 0 with fail
  go_cut [7] from 12 to 93 (fun v W => EdSt r (P + 42) w 8 v W)
  case first =>
    go_wp2_with (fail)
    go_loopw [7, 8] (fun v i W => ∃ k : Nat, i = .int .i64 k ∧ k ≤ 8 ∧ EdSt r (P + 2 + 5 * (8 - k)) w (8 - k) v W) (fun _ i _ => (intOf i).toNat)
    case atStart =>
      obtain ⟨L, PP, a, b, c, d, e⟩ := HS.out
      exact ⟨k0, rfl, by omega, L, PP, a, by omega, by omega, d, e⟩
    case round =>
      obtain ⟨k, rfl, hk8, L, PP, hO, hLn, hPP, hRd, hGr⟩ := hrel
      have hwz := hGr.size
      have HO := Lib.hid hO
      have HG := Lib.hid hGr
      have HE := Lib.hid (show EdSt r (P + 42) w 8 u7 wr from ⟨L, PP, hO, by omega, by omega, hRd, hGr⟩)
      clear hO hGr HS
      by_cases hk : 0 < k
      rotate_left
      · have e1 : decide ((0 : Int) < (k : Int)) = false := decide_eq_false (by omega)
        have e2 : decide (0 < k) = false := decide_eq_false (by omega)
        have e3 : (0 < k) = False := eq_false hk
        clear hk
        go_wp2
        go_meet
        exact HE.out
      by_cases hm1 : 1 < m
      rotate_left
      · have e1 : decide ((1 : Int) < (m : Int)) = false := decide_eq_false (by omega)
        have e2 : decide (1 < m) = false := decide_eq_false (by omega)
        have e3 : (1 < m) = False := eq_false hm1
        clear hm1
        go_wp2
        go_meet
        exact HE.out
      have hm0 : ((m : Int) == 0) = false := by simp; omega
      go_wp2_with (fail)
      go_at_call 16
      refine (pick_c r PP m _ hRd (by omega) (by omega) (by omega)).mono ?_
      rintro e w3 ⟨a, rfl, ha, hR3, hG3⟩
      obtain ⟨hc, hf, hz, hs⟩ := gcell hG3
      (try simp only [World.size_alloc, World.size_setCell, World.size_drew, size_drewN] at hs); (first | have l0 := Nat.lt_of_lt_of_le l0 (show _ ≤ w3.heap.size by omega) | have l0 : w.heap.size < w3.heap.size := (by omega) | skip); (try have l0e := Nat.le_of_lt l0); (try have l0f := Nat.le_add_right_of_le (k := 1) l0e); (try have l1 := Nat.lt_of_lt_of_le l1 (show _ ≤ w3.heap.size by omega)); (try have l1e := Nat.le_of_lt l1); (try have l1f := Nat.le_add_right_of_le (k := 1) l1e); (try have l2 := Nat.lt_of_lt_of_le l2 (show _ ≤ w3.heap.size by omega)); (try have l2e := Nat.le_of_lt l2); (try have l2f := Nat.le_add_right_of_le (k := 1) l2e); (try have l3 := Nat.lt_of_lt_of_le l3 (show _ ≤ w3.heap.size by omega)); (try have l3e := Nat.le_of_lt l3); (try have l3f := Nat.le_add_right_of_le (k := 1) l3e)
      have ha' := ha (by omega)
      have HO3 := Lib.hid (EdSt.pick (P := 0) (P' := 0) (n := 0) HO.out hG3 hr)
      have HG3 := Lib.hid (grown_trans HG.out hG3)
      clear hG3 HO HG hc hf hz hRd ha
      go_wp2_with (fail)
      go_at_call 16
      refine (pick_c r (PP + 1) ((m : Int) - 1) _ hR3 (by omega) (by omega) (by omega)).mono ?_
      rintro e w4 ⟨q, rfl, hq, hR4, hG4⟩
      obtain ⟨hc, hf, hz, hs⟩ := gcell hG4
      (try simp only [World.size_alloc, World.size_setCell, World.size_drew, size_drewN] at hs); (first | have l0 := Nat.lt_of_lt_of_le l0 (show _ ≤ w4.heap.size by omega) | have l0 : w.heap.size < w4.heap.size := (by omega) | skip); (try have l0e := Nat.le_of_lt l0); (try have l0f := Nat.le_add_right_of_le (k := 1) l0e); (try have l1 := Nat.lt_of_lt_of_le l1 (show _ ≤ w4.heap.size by omega)); (try have l1e := Nat.le_of_lt l1); (try have l1f := Nat.le_add_right_of_le (k := 1) l1e); (try have l2 := Nat.lt_of_lt_of_le l2 (show _ ≤ w4.heap.size by omega)); (try have l2e := Nat.le_of_lt l2); (try have l2f := Nat.le_add_right_of_le (k := 1) l2e); (try have l3 := Nat.lt_of_lt_of_le l3 (show _ ≤ w4.heap.size by omega)); (try have l3e := Nat.le_of_lt l3); (try have l3f := Nat.le_add_right_of_le (k := 1) l3e)
      have hq' := hq (by omega)
      have HO4 := Lib.hid (EdSt.pick (P := 0) (P' := 0) (n := 0) HO3.out hG4 hr)
      have HG4 := Lib.hid (grown_trans HG3.out hG4)
      clear hG4 HO3 HG3 hc hf hz hR3 hq
      go_wp2_with (fail)
      go_at_call 16
      refine (pick_c r (PP + 1 + 1) 2 _ hR4 (by omega) (by omega) (by omega)).mono ?_
      rintro e w5 ⟨z, rfl, hz2, hR5, hG5⟩
      obtain ⟨hc, hf, hz, hs⟩ := gcell hG5
      (try simp only [World.size_alloc, World.size_setCell, World.size_drew, size_drewN] at hs); (first | have l0 := Nat.lt_of_lt_of_le l0 (show _ ≤ w5.heap.size by omega) | have l0 : w.heap.size < w5.heap.size := (by omega) | skip); (try have l0e := Nat.le_of_lt l0); (try have l0f := Nat.le_add_right_of_le (k := 1) l0e); (try have l1 := Nat.lt_of_lt_of_le l1 (show _ ≤ w5.heap.size by omega)); (try have l1e := Nat.le_of_lt l1); (try have l1f := Nat.le_add_right_of_le (k := 1) l1e); (try have l2 := Nat.lt_of_lt_of_le l2 (show _ ≤ w5.heap.size by omega)); (try have l2e := Nat.le_of_lt l2); (try have l2f := Nat.le_add_right_of_le (k := 1) l2e); (try have l3 := Nat.lt_of_lt_of_le l3 (show _ ≤ w5.heap.size by omega)); (try have l3e := Nat.le_of_lt l3); (try have l3f := Nat.le_add_right_of_le (k := 1) l3e)
      have HO5 := Lib.hid (EdSt.pick (P := 0) (P' := 0) (n := 0) HO4.out hG5 hr)
      have HG5 := Lib.hid (grown_trans HG4.out hG5)
      have hw5 := (grown_trans HG4.out hG5).size
      have hr5 := hR5.lt
      clear hG5 HO4 HG4 hc hf hz hR4
      go_upto_if 39 with (fail)
      go_cut [9, 10] from 17 to 57 (fun x y W => (∃ x0 y0 : Int, x = .int .i64 x0 ∧ y = .int .i64 y0) ∧ W = w5)
      case first =>
        by_cases hz0 : z = 0
        · subst hz0
          go_wp2
          all_goals
            go_meet
            exact ⟨⟨_, _, rfl, rfl⟩, rfl⟩
        · have hzb : ((z : Int) == 0) = false := by simpa using hz0
          go_wp2
          go_meet
          exact ⟨⟨_, _, rfl, rfl⟩, rfl⟩
      case rest =>
        obtain ⟨⟨x0, y0, rfl, rfl⟩, rfl⟩ := hcut
        go_wp2_with (fail)
        go_at_call 16
        refine (pick_c r (PP + 1 + 1 + 1) 5 _ (hR5.ext (by (repeat' (first | (with_reducible exact Below.refl _ _) | (with_reducible refine Below.mono (by assumption) ?_) | (with_reducible refine Below.trans ?_ (Below.mono (by assumption) ?_)) | (with_reducible refine Below.alloc ?_ ?_ _) | (with_reducible refine Below.drew ?_) | (with_reducible refine below_drewN ?_ _) | (with_reducible refine Below.setCell ?_ ?_ _) | (simp only [World.size_alloc, World.size_setCell, World.size_drew, size_drewN]; omega) | omega)))) (by omega) (by omega) (by omega)).mono ?_
        rintro e w6 ⟨j, rfl, hj, hR6, hG6⟩
        obtain ⟨hc, hf, hz, hs⟩ := gcell hG6
        (try simp only [World.size_alloc, World.size_setCell, World.size_drew, size_drewN] at hs); (first | have l0 := Nat.lt_of_lt_of_le l0 (show _ ≤ w6.heap.size by omega) | have l0 : w.heap.size < w6.heap.size := (by omega) | skip); (try have l0e := Nat.le_of_lt l0); (try have l0f := Nat.le_add_right_of_le (k := 1) l0e); (try have l1 := Nat.lt_of_lt_of_le l1 (show _ ≤ w6.heap.size by omega)); (try have l1e := Nat.le_of_lt l1); (try have l1f := Nat.le_add_right_of_le (k := 1) l1e); (try have l2 := Nat.lt_of_lt_of_le l2 (show _ ≤ w6.heap.size by omega)); (try have l2e := Nat.le_of_lt l2); (try have l2f := Nat.le_add_right_of_le (k := 1) l2e); (try have l3 := Nat.lt_of_lt_of_le l3 (show _ ≤ w6.heap.size by omega)); (try have l3e := Nat.le_of_lt l3); (try have l3f := Nat.le_add_right_of_le (k := 1) l3e)
        have hj' := hj (by omega)
        obtain ⟨kd, hkd⟩ := lit_kind wc 3 j (by omega)
        have hkd6 : w6.cell? ⟨wc.heap.size, j, none⟩ = some (.int .i64 kd) := by rw [hc _ _ (by simp) (by omega)]; exact hkd
        have HO6 := Lib.hid (EdSt.pick (P := 0) (P' := 0) (n := 0) (HO5.out.ext (show Ext wc (wc.alloc (.cells #[.int .i64 1, .int .i64 2, .int .i64 3, .int .i64 3, .int .i64 4] 3)) by (repeat' (first | (with_reducible exact Below.refl _ _) | (with_reducible refine Below.mono (by assumption) ?_) | (with_reducible refine Below.trans ?_ (Below.mono (by assumption) ?_)) | (with_reducible refine Below.alloc ?_ ?_ _) | (with_reducible refine Below.drew ?_) | (with_reducible refine below_drewN ?_ _) | (with_reducible refine Below.setCell ?_ ?_ _) | (simp only [World.size_alloc, World.size_setCell, World.size_drew, size_drewN]; omega) | omega)))) hG6 hr)
        have HG6 := Lib.hid (grown_trans HG5.out (grown_trans (grown_ext (show Ext wc (wc.alloc (.cells #[.int .i64 1, .int .i64 2, .int .i64 3, .int .i64 3, .int .i64 4] 3)) by (repeat' (first | (with_reducible exact Below.refl _ _) | (with_reducible refine Below.mono (by assumption) ?_) | (with_reducible refine Below.trans ?_ (Below.mono (by assumption) ?_)) | (with_reducible refine Below.alloc ?_ ?_ _) | (with_reducible refine Below.drew ?_) | (with_reducible refine below_drewN ?_ _) | (with_reducible refine Below.setCell ?_ ?_ _) | (simp only [World.size_alloc, World.size_setCell, World.size_drew, size_drewN]; omega) | omega))) (some r)) hG6))
        have hw6 := HG6.out.size
        have HR6 := Lib.hid hR6
        clear hG6 HO5 HG5 hc hf hz hR5 hkd hj hR6
        go_wp2_with (at_builtin; refine wpList_append3 _ rfl _ _ 23 rfl w.heap.size 48 Tryd.underlying23 infoEdgeD rfl _ L rfl (HO6.out.ext (by (repeat' (first | (with_reducible exact Below.refl _ _) | (with_reducible refine Below.mono (by assumption) ?_) | (with_reducible refine Below.trans ?_ (Below.mono (by assumption) ?_)) | (with_reducible refine Below.alloc ?_ ?_ _) | (with_reducible refine Below.drew ?_) | (with_reducible refine below_drewN ?_ _) | (with_reducible refine Below.setCell ?_ ?_ _) | (simp only [World.size_alloc, World.size_setCell, World.size_drew, size_drewN]; omega) | omega)))) _ x0 y0 kd rfl ((lit_cell' _ _ _ 0).trans rfl) ((lit_cell' _ _ _ 1).trans rfl) ((lit_cell' _ _ _ 2).trans rfl) ?_ ?_ ?_)
        · omega
        · rw [World.size_alloc]; omega
        · intro v' w' hown' hgrow
          have hE6 : Ext w6 (w6.alloc (.cells #[.int .i64 x0, .int .i64 y0, .int .i64 kd] 48)) := by (repeat' (first | (with_reducible exact Below.refl _ _) | (with_reducible refine Below.mono (by assumption) ?_) | (with_reducible refine Below.trans ?_ (Below.mono (by assumption) ?_)) | (with_reducible refine Below.alloc ?_ ?_ _) | (with_reducible refine Below.drew ?_) | (with_reducible refine below_drewN ?_ _) | (with_reducible refine Below.setCell ?_ ?_ _) | (simp only [World.size_alloc, World.size_setCell, World.size_drew, size_drewN]; omega) | omega))
          have hgl : ∀ g, u7.ownBlock = some g → w.heap.size ≤ g := fun g e => own_lo HO6.out e
          have G9 := grown_sub (grown_sub HG6.out (grown_ext hE6 none) (fun g hg => by cases hg)) hgrow hgl
          have R9 := (HR6.out.ext hE6).grown hgrow (fun g e => by have := hgl g e; omega)
          have H9 := Lib.hid (show EdSt r (P + 2 + 5 * (8 - (k - 1))) w (8 - (k - 1)) v' w' from ⟨_, _, hown', by simp; omega, by omega, R9, G9⟩)
          clear G9 R9 hown' hgrow HO6 HG6 HR6 HE
          go_wp2
          go_roundw
          case measure => simp [intOf]; omega
          case rel => exact ⟨k - 1, by go_num, by omega, H9.out⟩
  case rest =>
    obtain ⟨L, PP, hO, hLn, hPP, hRd, hGr⟩ := hcut
    have hwz := hGr.size
    have HO := Lib.hid hO
    have HG := Lib.hid hGr
    clear hO hGr HS
    go_wp2_with (fail)
    go_at_call 32
    refine (odd_c r PP n _ hRd (by omega) (by omega) (by omega)).mono ?_
    rintro e w6 ⟨b6, rfl, hR6, hG6⟩
    obtain ⟨hc, hf, hz, hs⟩ := gcell hG6
    (try simp only [World.size_alloc, World.size_setCell, World.size_drew, size_drewN] at hs); (first | have l0 := Nat.lt_of_lt_of_le l0 (show _ ≤ w6.heap.size by omega) | have l0 : w.heap.size < w6.heap.size := (by omega) | skip); (try have l0e := Nat.le_of_lt l0); (try have l0f := Nat.le_add_right_of_le (k := 1) l0e); (try have l1 := Nat.lt_of_lt_of_le l1 (show _ ≤ w6.heap.size by omega)); (try have l1e := Nat.le_of_lt l1); (try have l1f := Nat.le_add_right_of_le (k := 1) l1e); (try have l2 := Nat.lt_of_lt_of_le l2 (show _ ≤ w6.heap.size by omega)); (try have l2e := Nat.le_of_lt l2); (try have l2f := Nat.le_add_right_of_le (k := 1) l2e); (try have l3 := Nat.lt_of_lt_of_le l3 (show _ ≤ w6.heap.size by omega)); (try have l3e := Nat.le_of_lt l3); (try have l3f := Nat.le_add_right_of_le (k := 1) l3e)
    have HO6 := Lib.hid (EdSt.pick (P := 0) (P' := 0) (n := 0) HO.out hG6 hr)
    have HG6 := Lib.hid (grown_trans HG.out hG6)
    clear hG6 HO HG hc hf hz hRd
    cases b6
    · go_wp2
      go_ret2
      exact ⟨m, L, _, rfl, HO6.out, by omega, by omega, by omega, hR6.mono (by omega), HG6.out⟩
    · skip
      go_wp2_with (fail)
      go_at_call 16
      refine (pick_c r (PP + 1) 4 _ hR6 (by omega) (by omega) (by omega)).mono ?_
      rintro e w7 ⟨z, rfl, hz2, hR7, hG7⟩
      obtain ⟨hc, hf, hz, hs⟩ := gcell hG7
      (try simp only [World.size_alloc, World.size_setCell, World.size_drew, size_drewN] at hs); (first | have l0 := Nat.lt_of_lt_of_le l0 (show _ ≤ w7.heap.size by omega) | have l0 : w.heap.size < w7.heap.size := (by omega) | skip); (try have l0e := Nat.le_of_lt l0); (try have l0f := Nat.le_add_right_of_le (k := 1) l0e); (try have l1 := Nat.lt_of_lt_of_le l1 (show _ ≤ w7.heap.size by omega)); (try have l1e := Nat.le_of_lt l1); (try have l1f := Nat.le_add_right_of_le (k := 1) l1e); (try have l2 := Nat.lt_of_lt_of_le l2 (show _ ≤ w7.heap.size by omega)); (try have l2e := Nat.le_of_lt l2); (try have l2f := Nat.le_add_right_of_le (k := 1) l2e); (try have l3 := Nat.lt_of_lt_of_le l3 (show _ ≤ w7.heap.size by omega)); (try have l3e := Nat.le_of_lt l3); (try have l3f := Nat.le_add_right_of_le (k := 1) l3e)
      have hz' := hz2 (by omega)
      have HO7 := Lib.hid (EdSt.pick (P := 0) (P' := 0) (n := 0) HO6.out hG7 hr)
      have HG7 := Lib.hid (grown_trans HG6.out hG7)
      have hw7 := HG7.out.size
      have hr7 := hR7.lt
      clear hG7 HO6 HG6 hc hf hz hR6 hz2
      obtain rfl | rfl | rfl | rfl : z = 0 ∨ z = 1 ∨ z = 2 ∨ z = 3 := by omega
      · skip
        have HR9 := Lib.hid hR7
        go_wp2_with (at_builtin; refine wpList_append3 _ rfl _ _ 23 rfl w.heap.size 48 Tryd.underlying23 infoEdgeD rfl _ L rfl (HO7.out.ext (by (repeat' (first | (with_reducible exact Below.refl _ _) | (with_reducible refine Below.mono (by assumption) ?_) | (with_reducible refine Below.trans ?_ (Below.mono (by assumption) ?_)) | (with_reducible refine Below.alloc ?_ ?_ _) | (with_reducible refine Below.drew ?_) | (with_reducible refine below_drewN ?_ _) | (with_reducible refine Below.setCell ?_ ?_ _) | (simp only [World.size_alloc, World.size_setCell, World.size_drew, size_drewN]; omega) | omega)))) _ 0 0 1 rfl ((lit_cell' _ _ _ 0).trans rfl) ((lit_cell' _ _ _ 1).trans rfl) ((lit_cell' _ _ _ 2).trans rfl) ?_ ?_ ?_)
        · omega
        · rw [World.size_alloc]; omega
        · intro v' w' hown' hgrow
          have hE6 : Ext w7 (w7.alloc (.cells #[.int .i64 0, .int .i64 0, .int .i64 1] 48)) := by (repeat' (first | (with_reducible exact Below.refl _ _) | (with_reducible refine Below.mono (by assumption) ?_) | (with_reducible refine Below.trans ?_ (Below.mono (by assumption) ?_)) | (with_reducible refine Below.alloc ?_ ?_ _) | (with_reducible refine Below.drew ?_) | (with_reducible refine below_drewN ?_ _) | (with_reducible refine Below.setCell ?_ ?_ _) | (simp only [World.size_alloc, World.size_setCell, World.size_drew, size_drewN]; omega) | omega))
          have hgl : ∀ g, u7.ownBlock = some g → w.heap.size ≤ g := fun g e => own_lo HO7.out e
          have G9 := Lib.hid (grown_sub (grown_sub HG7.out (grown_ext hE6 none) (fun g hg => by cases hg)) hgrow hgl)
          have R9 := Lib.hid ((HR9.out.ext hE6).grown hgrow (fun g e => by have := hgl g e; omega))
          have O9 := Lib.hid hown'
          clear hown' hgrow HR9
          go_wp2
          go_ret2
          exact ⟨m, _, _, rfl, O9.out, by omega, by omega, by simp; omega, R9.out.mono (by omega), G9.out⟩
      · skip
        have HR9 := Lib.hid hR7
        go_wp2_with (at_builtin; refine wpList_append3 _ rfl _ _ 23 rfl w.heap.size 48 Tryd.underlying23 infoEdgeD rfl _ L rfl (HO7.out.ext (by (repeat' (first | (with_reducible exact Below.refl _ _) | (with_reducible refine Below.mono (by assumption) ?_) | (with_reducible refine Below.trans ?_ (Below.mono (by assumption) ?_)) | (with_reducible refine Below.alloc ?_ ?_ _) | (with_reducible refine Below.drew ?_) | (with_reducible refine below_drewN ?_ _) | (with_reducible refine Below.setCell ?_ ?_ _) | (simp only [World.size_alloc, World.size_setCell, World.size_drew, size_drewN]; omega) | omega)))) _ 0 m 1 rfl ((lit_cell' _ _ _ 0).trans rfl) ((lit_cell' _ _ _ 1).trans rfl) ((lit_cell' _ _ _ 2).trans rfl) ?_ ?_ ?_)
        · omega
        · rw [World.size_alloc]; omega
        · intro v' w' hown' hgrow
          have hE6 : Ext w7 (w7.alloc (.cells #[.int .i64 0, .int .i64 m, .int .i64 1] 48)) := by (repeat' (first | (with_reducible exact Below.refl _ _) | (with_reducible refine Below.mono (by assumption) ?_) | (with_reducible refine Below.trans ?_ (Below.mono (by assumption) ?_)) | (with_reducible refine Below.alloc ?_ ?_ _) | (with_reducible refine Below.drew ?_) | (with_reducible refine below_drewN ?_ _) | (with_reducible refine Below.setCell ?_ ?_ _) | (simp only [World.size_alloc, World.size_setCell, World.size_drew, size_drewN]; omega) | omega))
          have hgl : ∀ g, u7.ownBlock = some g → w.heap.size ≤ g := fun g e => own_lo HO7.out e
          have G9 := Lib.hid (grown_sub (grown_sub HG7.out (grown_ext hE6 none) (fun g hg => by cases hg)) hgrow hgl)
          have R9 := Lib.hid ((HR9.out.ext hE6).grown hgrow (fun g e => by have := hgl g e; omega))
          have O9 := Lib.hid hown'
          clear hown' hgrow HR9
          go_wp2
          go_ret2
          exact ⟨m, _, _, rfl, O9.out, by omega, by omega, by simp; omega, R9.out.mono (by omega), G9.out⟩
      · skip
        have hra := hR7.ext (show Ext w7 (w7.alloc (.cells #[.int .i64 0, .int .i64 5] 3)) by (repeat' (first | (with_reducible exact Below.refl _ _) | (with_reducible refine Below.mono (by assumption) ?_) | (with_reducible refine Below.trans ?_ (Below.mono (by assumption) ?_)) | (with_reducible refine Below.alloc ?_ ?_ _) | (with_reducible refine Below.drew ?_) | (with_reducible refine below_drewN ?_ _) | (with_reducible refine Below.setCell ?_ ?_ _) | (simp only [World.size_alloc, World.size_setCell, World.size_drew, size_drewN]; omega) | omega)))
        go_wp2_with (fail)
        go_at_call 16
        refine (pick_c r (PP + 1 + 1) 2 _ hra (by omega) (by omega) (by omega)).mono ?_
        rintro e w8 ⟨j, rfl, hj, hR8, hG8⟩
        obtain ⟨hc, hf, hz, hs⟩ := gcell hG8
        (try simp only [World.size_alloc, World.size_setCell, World.size_drew, size_drewN] at hs); (first | have l0 := Nat.lt_of_lt_of_le l0 (show _ ≤ w8.heap.size by omega) | have l0 : w.heap.size < w8.heap.size := (by omega) | skip); (try have l0e := Nat.le_of_lt l0); (try have l0f := Nat.le_add_right_of_le (k := 1) l0e); (try have l1 := Nat.lt_of_lt_of_le l1 (show _ ≤ w8.heap.size by omega)); (try have l1e := Nat.le_of_lt l1); (try have l1f := Nat.le_add_right_of_le (k := 1) l1e); (try have l2 := Nat.lt_of_lt_of_le l2 (show _ ≤ w8.heap.size by omega)); (try have l2e := Nat.le_of_lt l2); (try have l2f := Nat.le_add_right_of_le (k := 1) l2e); (try have l3 := Nat.lt_of_lt_of_le l3 (show _ ≤ w8.heap.size by omega)); (try have l3e := Nat.le_of_lt l3); (try have l3f := Nat.le_add_right_of_le (k := 1) l3e)
        have hj' := hj (by omega)
        obtain ⟨kd, hkd, hkk⟩ := lit_pair w7 3 0 5 j (by omega)
        have hkd8 : w8.cell? ⟨w7.heap.size, j, none⟩ = some (.int .i64 kd) := by rw [hc _ _ (by simp) (by omega)]; exact hkd
        have HO8 := Lib.hid (EdSt.pick (P := 0) (P' := 0) (n := 0) (HO7.out.ext (show Ext w7 (w7.alloc (.cells #[.int .i64 0, .int .i64 5] 3)) by (repeat' (first | (with_reducible exact Below.refl _ _) | (with_reducible refine Below.mono (by assumption) ?_) | (with_reducible refine Below.trans ?_ (Below.mono (by assumption) ?_)) | (with_reducible refine Below.alloc ?_ ?_ _) | (with_reducible refine Below.drew ?_) | (with_reducible refine below_drewN ?_ _) | (with_reducible refine Below.setCell ?_ ?_ _) | (simp only [World.size_alloc, World.size_setCell, World.size_drew, size_drewN]; omega) | omega)))) hG8 hr)
        have HG8 := Lib.hid (grown_trans HG7.out (grown_trans (grown_ext (show Ext w7 (w7.alloc (.cells #[.int .i64 0, .int .i64 5] 3)) by (repeat' (first | (with_reducible exact Below.refl _ _) | (with_reducible refine Below.mono (by assumption) ?_) | (with_reducible refine Below.trans ?_ (Below.mono (by assumption) ?_)) | (with_reducible refine Below.alloc ?_ ?_ _) | (with_reducible refine Below.drew ?_) | (with_reducible refine below_drewN ?_ _) | (with_reducible refine Below.setCell ?_ ?_ _) | (simp only [World.size_alloc, World.size_setCell, World.size_drew, size_drewN]; omega) | omega))) (some r)) hG8))
        have hw8 := HG8.out.size
        clear hG8 HO7 HG7 hc hf hz hR7 hkd hj hra
        have HR9 := Lib.hid hR8
        go_wp2_with (at_builtin; refine wpList_append3 _ rfl _ _ 23 rfl w.heap.size 48 Tryd.underlying23 infoEdgeD rfl _ L rfl (HO8.out.ext (by (repeat' (first | (with_reducible exact Below.refl _ _) | (with_reducible refine Below.mono (by assumption) ?_) | (with_reducible refine Below.trans ?_ (Below.mono (by assumption) ?_)) | (with_reducible refine Below.alloc ?_ ?_ _) | (with_reducible refine Below.drew ?_) | (with_reducible refine below_drewN ?_ _) | (with_reducible refine Below.setCell ?_ ?_ _) | (simp only [World.size_alloc, World.size_setCell, World.size_drew, size_drewN]; omega) | omega)))) _ 0 1 kd rfl ((lit_cell' _ _ _ 0).trans rfl) ((lit_cell' _ _ _ 1).trans rfl) ((lit_cell' _ _ _ 2).trans rfl) ?_ ?_ ?_)
        · omega
        · rw [World.size_alloc]; omega
        · intro v' w' hown' hgrow
          have hE6 : Ext w8 (w8.alloc (.cells #[.int .i64 0, .int .i64 1, .int .i64 kd] 48)) := by (repeat' (first | (with_reducible exact Below.refl _ _) | (with_reducible refine Below.mono (by assumption) ?_) | (with_reducible refine Below.trans ?_ (Below.mono (by assumption) ?_)) | (with_reducible refine Below.alloc ?_ ?_ _) | (with_reducible refine Below.drew ?_) | (with_reducible refine below_drewN ?_ _) | (with_reducible refine Below.setCell ?_ ?_ _) | (simp only [World.size_alloc, World.size_setCell, World.size_drew, size_drewN]; omega) | omega))
          have hgl : ∀ g, u7.ownBlock = some g → w.heap.size ≤ g := fun g e => own_lo HO8.out e
          have G9 := Lib.hid (grown_sub (grown_sub HG8.out (grown_ext hE6 none) (fun g hg => by cases hg)) hgrow hgl)
          have R9 := Lib.hid ((HR9.out.ext hE6).grown hgrow (fun g e => by have := hgl g e; omega))
          have O9 := Lib.hid hown'
          clear hown' hgrow HR9
          go_wp2
          go_ret2
          exact ⟨m, _, _, rfl, O9.out, by omega, by omega, by simp; omega, R9.out.mono (by omega), G9.out⟩
      · skip
        have hra := hR7.ext (show Ext w7 (w7.alloc (.cells #[.int .i64 (-1), .int .i64 7] 3)) by (repeat' (first | (with_reducible exact Below.refl _ _) | (with_reducible refine Below.mono (by assumption) ?_) | (with_reducible refine Below.trans ?_ (Below.mono (by assumption) ?_)) | (with_reducible refine Below.alloc ?_ ?_ _) | (with_reducible refine Below.drew ?_) | (with_reducible refine below_drewN ?_ _) | (with_reducible refine Below.setCell ?_ ?_ _) | (simp only [World.size_alloc, World.size_setCell, World.size_drew, size_drewN]; omega) | omega)))
        go_wp2_with (fail)
        go_at_call 16
        refine (pick_c r (PP + 1 + 1) 2 _ hra (by omega) (by omega) (by omega)).mono ?_
        rintro e w8 ⟨j, rfl, hj, hR8, hG8⟩
        obtain ⟨hc, hf, hz, hs⟩ := gcell hG8
        (try simp only [World.size_alloc, World.size_setCell, World.size_drew, size_drewN] at hs); (first | have l0 := Nat.lt_of_lt_of_le l0 (show _ ≤ w8.heap.size by omega) | have l0 : w.heap.size < w8.heap.size := (by omega) | skip); (try have l0e := Nat.le_of_lt l0); (try have l0f := Nat.le_add_right_of_le (k := 1) l0e); (try have l1 := Nat.lt_of_lt_of_le l1 (show _ ≤ w8.heap.size by omega)); (try have l1e := Nat.le_of_lt l1); (try have l1f := Nat.le_add_right_of_le (k := 1) l1e); (try have l2 := Nat.lt_of_lt_of_le l2 (show _ ≤ w8.heap.size by omega)); (try have l2e := Nat.le_of_lt l2); (try have l2f := Nat.le_add_right_of_le (k := 1) l2e); (try have l3 := Nat.lt_of_lt_of_le l3 (show _ ≤ w8.heap.size by omega)); (try have l3e := Nat.le_of_lt l3); (try have l3f := Nat.le_add_right_of_le (k := 1) l3e)
        have hj' := hj (by omega)
        obtain ⟨kd, hkd, hkk⟩ := lit_pair w7 3 (-1) 7 j (by omega)
        have hkd8 : w8.cell? ⟨w7.heap.size, j, none⟩ = some (.int .i64 kd) := by rw [hc _ _ (by simp) (by omega)]; exact hkd
        have HO8 := Lib.hid (EdSt.pick (P := 0) (P' := 0) (n := 0) (HO7.out.ext (show Ext w7 (w7.alloc (.cells #[.int .i64 (-1), .int .i64 7] 3)) by (repeat' (first | (with_reducible exact Below.refl _ _) | (with_reducible refine Below.mono (by assumption) ?_) | (with_reducible refine Below.trans ?_ (Below.mono (by assumption) ?_)) | (with_reducible refine Below.alloc ?_ ?_ _) | (with_reducible refine Below.drew ?_) | (with_reducible refine below_drewN ?_ _) | (with_reducible refine Below.setCell ?_ ?_ _) | (simp only [World.size_alloc, World.size_setCell, World.size_drew, size_drewN]; omega) | omega)))) hG8 hr)
        have HG8 := Lib.hid (grown_trans HG7.out (grown_trans (grown_ext (show Ext w7 (w7.alloc (.cells #[.int .i64 (-1), .int .i64 7] 3)) by (repeat' (first | (with_reducible exact Below.refl _ _) | (with_reducible refine Below.mono (by assumption) ?_) | (with_reducible refine Below.trans ?_ (Below.mono (by assumption) ?_)) | (with_reducible refine Below.alloc ?_ ?_ _) | (with_reducible refine Below.drew ?_) | (with_reducible refine below_drewN ?_ _) | (with_reducible refine Below.setCell ?_ ?_ _) | (simp only [World.size_alloc, World.size_setCell, World.size_drew, size_drewN]; omega) | omega))) (some r)) hG8))
        have hw8 := HG8.out.size
        clear hG8 HO7 HG7 hc hf hz hR7 hkd hj hra
        go_wp2
        go_ret2
        exact ⟨kd, L, _, rfl, HO8.out, by omega, by omega, by omega, hR8.mono (by omega), HG8.out⟩
end Go.Proofs.YtbglkjmoednapaaDoor

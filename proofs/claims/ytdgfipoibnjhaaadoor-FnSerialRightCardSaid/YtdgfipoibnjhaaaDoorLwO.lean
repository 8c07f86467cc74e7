/-
  The program's last writes, handed back as a slice of the call's own.
-/
import Derived.Test.YtdgfipoibnjhaaaDoorReads
import Derived.Test.YtdgfipoibnjhaaaDoorDrawHi
import Derived.Deep.AppendLies
import Derived.Deep.RegionLawGrows
import Derived.Test.YtdgfipoibnjhaaaDoorGCaps37
namespace Go.Proofs.YtdgfipoibnjhaaaDoor
set_option linter.unusedSimpArgs false
set_option linter.unusedVariables false
set_option maxRecDepth 100000
open Go.RowKit

set_option maxHeartbeats 4000000 in
theorem lastWritesO_c (t : TxnT) (S : Nat → Prop) (A : Option Addr) (c : Nat) (w : World) (hx : Ops S w A t.ops) (hn : t.ops.length ≤ 1048576) :
    Calls Tryd.prog 53 #[.agg #[.int .i64 t.sess, .slice A t.ops.length c, .bool t.done]] w fun e w' => ∃ v, e = .returned v ∧ Own3 w' w.heap.size 34 v (lwsTo t.ops 3) ∧ Ext w w' := by
  have hmm := @run_makeMap Tryd.prog
  go_enter Tryd.func53, Tryd.ntmps53
  go_wp2
  have hM : MapF (fun k : Int => Value.int .i64 k) ((w.alloc (.cells #[.int .i64 t.sess, .slice A t.ops.length c, .bool t.done] 32)).alloc (.map #[] 0)) (w.heap.size + 1) (lmap t.ops 0) 0 := by
    have h := MapF.made (ek := fun k : Int => Value.int .i64 k) (w.alloc (.cells #[.int .i64 t.sess, .slice A t.ops.length c, .bool t.done] 32))
    simp only [World.size_alloc] at h
    exact h
  go_loopw [14] (fun i wr => ∃ k : Nat, k ≤ t.ops.length ∧ i = .int .i64 k ∧ MapF (fun k : Int => Value.int .i64 k) wr (w.heap.size + 1) (lmap t.ops k) k ∧ Ext (w.alloc (.cells #[.int .i64 t.sess, .slice A t.ops.length c, .bool t.done] 32)) wr) (fun i _ => t.ops.length - (intOf i).toNat)
  case atStart => exact ⟨0, Nat.zero_le _, rfl, hM, by (repeat' (first | (with_reducible exact Below.refl _ _) | (with_reducible refine Below.mono (by assumption) ?_) | (with_reducible refine Below.trans ?_ (Below.mono (by assumption) ?_)) | (with_reducible refine Below.alloc ?_ ?_ _) | (with_reducible refine Below.drew ?_) | (with_reducible refine below_drewN ?_ _) | (with_reducible refine Below.setCell ?_ ?_ _) | (simp only [World.size_alloc, World.size_setCell, World.size_drew, size_drewN]; omega) | omega))⟩
  case round =>
    obtain ⟨k, hk, rfl, hmap, hE⟩ := hrel
    clear hM hmm
    have hE0 : Ext w wr := by have h := hE.size; simp only [World.size_alloc] at h; (repeat' (first | (with_reducible exact Below.refl _ _) | (with_reducible refine Below.mono (by assumption) ?_) | (with_reducible refine Below.trans ?_ (Below.mono (by assumption) ?_)) | (with_reducible refine Below.alloc ?_ ?_ _) | (with_reducible refine Below.drew ?_) | (with_reducible refine below_drewN ?_ _) | (with_reducible refine Below.setCell ?_ ?_ _) | (simp only [World.size_alloc, World.size_setCell, World.size_drew, size_drewN]; omega) | omega))
    have hsr := hE.size
    simp only [World.size_alloc] at hsr
    by_cases hlt : k < t.ops.length
    · obtain ⟨x0, x1, x2, b, off, hxk, rfl, _, hb0, c0, c1, c2⟩ := (hx.ext hE0).at_ hlt
      have HX := Lib.hid hxk
      clear hxk
      by_cases hr : x0 = 2
      · have hr0 : (x0 == 2) = true := by simp [hr]
        go_wp2_with (first
          | (go_at_call 87; refine (writes_c _ _ _ _).mono ?_; rintro e w1 ⟨rfl, hb⟩; obtain ⟨hc, hf, hz, hs⟩ := bcell hb; (try simp only [World.size_alloc, World.size_setCell, World.size_drew, size_drewN] at hs); (first | have l0 := Nat.lt_of_lt_of_le l0 (show _ ≤ w1.heap.size by omega) | have l0 : w.heap.size < w1.heap.size := (by omega) | skip); (try have l0e := Nat.le_of_lt l0); (try have l0f := Nat.le_add_right_of_le (k := 1) l0e); (try have l1 := Nat.lt_of_lt_of_le l1 (show _ ≤ w1.heap.size by omega)); (try have l1e := Nat.le_of_lt l1); (try have l1f := Nat.le_add_right_of_le (k := 1) l1e); (try have l2 := Nat.lt_of_lt_of_le l2 (show _ ≤ w1.heap.size by omega)); (try have l2e := Nat.le_of_lt l2); (try have l2f := Nat.le_add_right_of_le (k := 1) l2e); (try have l3 := Nat.lt_of_lt_of_le l3 (show _ ≤ w1.heap.size by omega)); (try have l3e := Nat.le_of_lt l3); (try have l3f := Nat.le_add_right_of_le (k := 1) l3e); have hr1 : Ext wr w1 := (by (repeat' (first | (with_reducible exact Below.refl _ _) | (with_reducible refine Below.mono (by assumption) ?_) | (with_reducible refine Below.trans ?_ (Below.mono (by assumption) ?_)) | (with_reducible refine Below.alloc ?_ ?_ _) | (with_reducible refine Below.drew ?_) | (with_reducible refine below_drewN ?_ _) | (with_reducible refine Below.setCell ?_ ?_ _) | (simp only [World.size_alloc, World.size_setCell, World.size_drew, size_drewN]; omega) | omega))); obtain ⟨y0, y1, y2⟩ := box3 hb)
          | (at_mapUpdate; refine wpList_putF _ rfl _ _ _ 101 rfl Tryd.underlying101 (int_keylaw Tryd.underlying3) _ _ _ rfl (hmap.ext (by (repeat' (first | (with_reducible exact Below.refl _ _) | (with_reducible refine Below.mono (by assumption) ?_) | (with_reducible refine Below.trans ?_ (Below.mono (by assumption) ?_)) | (with_reducible refine Below.alloc ?_ ?_ _) | (with_reducible refine Below.drew ?_) | (with_reducible refine below_drewN ?_ _) | (with_reducible refine Below.setCell ?_ ?_ _) | (simp only [World.size_alloc, World.size_setCell, World.size_drew, size_drewN]; omega) | omega)))) x1 _ rfl rfl ?_))
        intro w2 hmap2 hgrow2
        have hmap3 : MapF (fun k : Int => Value.int .i64 k) w2 (w.heap.size + 1) (lmap t.ops (k + 1)) (k + 1) := by rw [← lmap_put HX.out hr]; simp only [hr] at hmap2 ⊢; exact hmap2
        have hE2 := Below.grown (hE.tr hr1) hgrow2 (hE.tr hr1).size (fun g hg => by cases hg; simp only [World.size_alloc]; omega)
        clear hmap2
        go_wp2
        exact ⟨⟨k + 1, by omega, by go_num, hmap3, hE2⟩, by simp [intOf]; omega⟩
      · have hr0 : (x0 == 2) = false := by simp [hr]
        go_wp2_with (go_at_call 87; refine (writes_c _ _ _ _).mono ?_; rintro e w1 ⟨rfl, hb⟩; obtain ⟨hc, hf, hz, hs⟩ := bcell hb; (try simp only [World.size_alloc, World.size_setCell, World.size_drew, size_drewN] at hs); (first | have l0 := Nat.lt_of_lt_of_le l0 (show _ ≤ w1.heap.size by omega) | have l0 : w.heap.size < w1.heap.size := (by omega) | skip); (try have l0e := Nat.le_of_lt l0); (try have l0f := Nat.le_add_right_of_le (k := 1) l0e); (try have l1 := Nat.lt_of_lt_of_le l1 (show _ ≤ w1.heap.size by omega)); (try have l1e := Nat.le_of_lt l1); (try have l1f := Nat.le_add_right_of_le (k := 1) l1e); (try have l2 := Nat.lt_of_lt_of_le l2 (show _ ≤ w1.heap.size by omega)); (try have l2e := Nat.le_of_lt l2); (try have l2f := Nat.le_add_right_of_le (k := 1) l2e); (try have l3 := Nat.lt_of_lt_of_le l3 (show _ ≤ w1.heap.size by omega)); (try have l3e := Nat.le_of_lt l3); (try have l3f := Nat.le_add_right_of_le (k := 1) l3e); have hr1 : Ext wr w1 := (by (repeat' (first | (with_reducible exact Below.refl _ _) | (with_reducible refine Below.mono (by assumption) ?_) | (with_reducible refine Below.trans ?_ (Below.mono (by assumption) ?_)) | (with_reducible refine Below.alloc ?_ ?_ _) | (with_reducible refine Below.drew ?_) | (with_reducible refine below_drewN ?_ _) | (with_reducible refine Below.setCell ?_ ?_ _) | (simp only [World.size_alloc, World.size_setCell, World.size_drew, size_drewN]; omega) | omega))))
        exact ⟨⟨k + 1, by omega, by go_num, by rw [← lmap_stay HX.out hr]; exact (hmap.ext hr1).more (by omega), by (repeat' (first | (with_reducible exact Below.refl _ _) | (with_reducible refine Below.mono (by assumption) ?_) | (with_reducible refine Below.trans ?_ (Below.mono (by assumption) ?_)) | (with_reducible refine Below.alloc ?_ ?_ _) | (with_reducible refine Below.drew ?_) | (with_reducible refine below_drewN ?_ _) | (with_reducible refine Below.setCell ?_ ?_ _) | (simp only [World.size_alloc, World.size_setCell, World.size_drew, size_drewN]; omega) | omega))⟩, by simp [intOf]; omega⟩
    · obtain rfl : k = t.ops.length := by omega
      obtain ⟨m, hm, hlen⟩ := hmap.len (t := 101) Tryd.underlying101
      obtain ⟨i0, hi, hz0, hz1, hz2⟩ := info_parts info3
      have hmk : (Instr.makeSlice 30 (.int .i64 0) (.int .i64 m)).run Tryd.prog wr = _ := run_make_rowN (P := Tryd.prog) 30 34 i0 _ Tryd.underlying30 hi hz0 .i64 .i64 0 m (by omega) (by rw [hz2]; omega) (by omega) wr
      rw [hz1] at hmk
      have hbl := hmap.lt
      have hM2 : MapF (fun k : Int => Value.int .i64 k) (wr.alloc (.cells (madeCells (Value.agg #[.int .i64 0, .int .i64 0, .int .i64 0]).cells (m * 3)) 34)) (w.heap.size + 1) (lmap t.ops t.ops.length) t.ops.length := hmap.ext (by (repeat' (first | (with_reducible exact Below.refl _ _) | (with_reducible refine Below.mono (by assumption) ?_) | (with_reducible refine Below.trans ?_ (Below.mono (by assumption) ?_)) | (with_reducible refine Below.alloc ?_ ?_ _) | (with_reducible refine Below.drew ?_) | (with_reducible refine below_drewN ?_ _) | (with_reducible refine Below.setCell ?_ ?_ _) | (simp only [World.size_alloc, World.size_setCell, World.size_drew, size_drewN]; omega) | omega)))
      have hO2 : Own3 (wr.alloc (.cells (madeCells (Value.agg #[.int .i64 0, .int .i64 0, .int .i64 0]).cells (m * 3)) 34)) (w.heap.size + 2) 34 (.slice (some ⟨wr.heap.size, 0, none⟩) 0 m) (lwsTo t.ops 0) :=
        Own3.made wr _ m rfl (by omega) (by omega) (by simp [madeCells])
      go_wp2
      clear hmk hmap
      obtain ⟨wo, rfl⟩ : ∃ wo : World, wo = wr := ⟨_, rfl⟩
      go_loopw [6, 28] (fun v i wr => ∃ j : Nat, j ≤ 3 ∧ i = .int .i64 j ∧ Own3 wr (w.heap.size + 2) 34 v (lwsTo t.ops j) ∧ MapF (fun k : Int => Value.int .i64 k) wr (w.heap.size + 1) (lmap t.ops t.ops.length) t.ops.length ∧ Ext (w.alloc (.cells #[.int .i64 t.sess, .slice A t.ops.length c, .bool t.done] 32)) wr) (fun _ i _ => 3 - (intOf i).toNat)
      case atStart => exact ⟨0, by omega, rfl, hO2, hM2, by (repeat' (first | (with_reducible exact Below.refl _ _) | (with_reducible refine Below.mono (by assumption) ?_) | (with_reducible refine Below.trans ?_ (Below.mono (by assumption) ?_)) | (with_reducible refine Below.alloc ?_ ?_ _) | (with_reducible refine Below.drew ?_) | (with_reducible refine below_drewN ?_ _) | (with_reducible refine Below.setCell ?_ ?_ _) | (simp only [World.size_alloc, World.size_setCell, World.size_drew, size_drewN]; omega) | omega))⟩
      case round =>
        obtain ⟨j, hj, rfl, hown, hmap, hE'⟩ := hrel
        have hsr' := hE'.size
        simp only [World.size_alloc] at hsr'
        clear hM2 hO2
        have hE0' : Ext w wr := by (repeat' (first | (with_reducible exact Below.refl _ _) | (with_reducible refine Below.mono (by assumption) ?_) | (with_reducible refine Below.trans ?_ (Below.mono (by assumption) ?_)) | (with_reducible refine Below.alloc ?_ ?_ _) | (with_reducible refine Below.drew ?_) | (with_reducible refine below_drewN ?_ _) | (with_reducible refine Below.setCell ?_ ?_ _) | (simp only [World.size_alloc, World.size_setCell, World.size_drew, size_drewN]; omega) | omega))
        by_cases hlt : j < 3
        · have hl := hmap.look (int_keylaw Tryd.underlying3) (t := 101) Tryd.underlying101 (z := .agg #[.int .i64 0, .int .i64 0, .int .i64 0]) (fun W => Tryd.zeroValue34 W) (j : Int) true
          simp only [if_pos, lmap] at hl
          cases hw : lastW t.ops j t.ops.length with
          | none =>
            rw [hw] at hl
            simp only [Option.map_none, Option.getD_none, Option.isSome_none] at hl
            have hn' := lwsTo_none hw
            have HN := Lib.hid hn'
            clear hn' hw
            go_wp2
            exact ⟨⟨j + 1, by omega, by go_num, by rw [HN.out]; exact hown.ext (by (repeat' (first | (with_reducible exact Below.refl _ _) | (with_reducible refine Below.mono (by assumption) ?_) | (with_reducible refine Below.trans ?_ (Below.mono (by assumption) ?_)) | (with_reducible refine Below.alloc ?_ ?_ _) | (with_reducible refine Below.drew ?_) | (with_reducible refine below_drewN ?_ _) | (with_reducible refine Below.setCell ?_ ?_ _) | (simp only [World.size_alloc, World.size_setCell, World.size_drew, size_drewN]; omega) | omega))), hmap.ext (by (repeat' (first | (with_reducible exact Below.refl _ _) | (with_reducible refine Below.mono (by assumption) ?_) | (with_reducible refine Below.trans ?_ (Below.mono (by assumption) ?_)) | (with_reducible refine Below.alloc ?_ ?_ _) | (with_reducible refine Below.drew ?_) | (with_reducible refine below_drewN ?_ _) | (with_reducible refine Below.setCell ?_ ?_ _) | (simp only [World.size_alloc, World.size_setCell, World.size_drew, size_drewN]; omega) | omega))), by (repeat' (first | (with_reducible exact Below.refl _ _) | (with_reducible refine Below.mono (by assumption) ?_) | (with_reducible refine Below.trans ?_ (Below.mono (by assumption) ?_)) | (with_reducible refine Below.alloc ?_ ?_ _) | (with_reducible refine Below.drew ?_) | (with_reducible refine below_drewN ?_ _) | (with_reducible refine Below.setCell ?_ ?_ _) | (simp only [World.size_alloc, World.size_setCell, World.size_drew, size_drewN]; omega) | omega))⟩, by simp [intOf]; omega⟩
          | some o =>
            obtain ⟨x0, x1, x2⟩ := o
            rw [hw] at hl
            simp only [Option.map_some, Option.getD_some, Option.isSome_some, encT3] at hl
            have hn' := lwsTo_some hw
            have HN := Lib.hid hn'
            clear hn' hw
            go_wp2_with (at_builtin; refine wpList_append3 _ rfl _ _ 30 rfl (w.heap.size + 2) 34 Tryd.underlying30 info3 rfl _ (lwsTo t.ops j) rfl (hown.ext (by (repeat' (first | (with_reducible exact Below.refl _ _) | (with_reducible refine Below.mono (by assumption) ?_) | (with_reducible refine Below.trans ?_ (Below.mono (by assumption) ?_)) | (with_reducible refine Below.alloc ?_ ?_ _) | (with_reducible refine Below.drew ?_) | (with_reducible refine below_drewN ?_ _) | (with_reducible refine Below.setCell ?_ ?_ _) | (simp only [World.size_alloc, World.size_setCell, World.size_drew, size_drewN]; omega) | omega)))) _ x0 x1 x2 rfl ?_ ?_ ?_ ?_ ?_ ?_)
            · simp
            · simp
            · simp
            · have := lwsTo_len t.ops j
              omega
            · simp only [World.size_alloc]; omega
            · intro v' w' hown' hgrow
              have hownA := hown.ext (w' := (wr.alloc (.cells #[.int .i64 x0, .int .i64 x1, .int .i64 x2] 34)).alloc (.cells #[.int .i64 x0, .int .i64 x1, .int .i64 x2] 34)) (by (repeat' (first | (with_reducible exact Below.refl _ _) | (with_reducible refine Below.mono (by assumption) ?_) | (with_reducible refine Below.trans ?_ (Below.mono (by assumption) ?_)) | (with_reducible refine Below.alloc ?_ ?_ _) | (with_reducible refine Below.drew ?_) | (with_reducible refine below_drewN ?_ _) | (with_reducible refine Below.setCell ?_ ?_ _) | (simp only [World.size_alloc, World.size_setCell, World.size_drew, size_drewN]; omega) | omega)))
              have hmapA := hmap.ext (w' := (wr.alloc (.cells #[.int .i64 x0, .int .i64 x1, .int .i64 x2] 34)).alloc (.cells #[.int .i64 x0, .int .i64 x1, .int .i64 x2] 34)) (by (repeat' (first | (with_reducible exact Below.refl _ _) | (with_reducible refine Below.mono (by assumption) ?_) | (with_reducible refine Below.trans ?_ (Below.mono (by assumption) ?_)) | (with_reducible refine Below.alloc ?_ ?_ _) | (with_reducible refine Below.drew ?_) | (with_reducible refine below_drewN ?_ _) | (with_reducible refine Below.setCell ?_ ?_ _) | (simp only [World.size_alloc, World.size_setCell, World.size_drew, size_drewN]; omega) | omega)))
              have hmap3 := hmapA.grown hgrow (hownA.ne_map hmapA)
              have hE3 : Ext (w.alloc (.cells #[.int .i64 t.sess, .slice A t.ops.length c, .bool t.done] 32)) w' := Below.grown (w := (wr.alloc (.cells #[.int .i64 x0, .int .i64 x1, .int .i64 x2] 34)).alloc (.cells #[.int .i64 x0, .int .i64 x1, .int .i64 x2] 34)) (by (repeat' (first | (with_reducible exact Below.refl _ _) | (with_reducible refine Below.mono (by assumption) ?_) | (with_reducible refine Below.trans ?_ (Below.mono (by assumption) ?_)) | (with_reducible refine Below.alloc ?_ ?_ _) | (with_reducible refine Below.drew ?_) | (with_reducible refine below_drewN ?_ _) | (with_reducible refine Below.setCell ?_ ?_ _) | (simp only [World.size_alloc, World.size_setCell, World.size_drew, size_drewN]; omega) | omega))) hgrow (by simp only [World.size_alloc]; omega) (fun g hg => by
                have := (World.ownsRow.lt hown g hg).1
                simp only [World.size_alloc]
                omega)
              rw [← HN.out] at hown'
              clear hgrow hownA hmapA hl
              go_wp2
              exact ⟨⟨j + 1, by omega, by go_num, hown', hmap3, hE3⟩, by simp [intOf]; omega⟩
        · obtain rfl : j = 3 := by omega
          go_wp2
          go_ret
          exact ⟨_, rfl, hown.below (by omega), hE0'⟩


set_option maxHeartbeats 2000000 in
theorem implLWO_c (t : TxnT) (S : Nat → Prop) (A : Option Addr) (c : Nat) (w : World) (hx : Ops S w A t.ops) (hn : t.ops.length ≤ 1048576) :
    Calls Tryd.prog 20 #[.agg #[.int .i64 t.sess, .slice A t.ops.length c, .bool t.done]] w fun e w' => ∃ v, e = .returned v ∧ Own3 w' w.heap.size 34 v (if txnv t = true then lwsTo t.ops 3 else []) ∧ Ext w w' := by
  have C := fun w hx => implTxnValid_c t S A c w hx hn
  cases hv : txnv t with
  | false =>
    rw [hv] at C
    have C := Lib.hid C
    clear hv
    rw [if_neg (by simp)]
    go_enter Tryd.func20, Tryd.ntmps20
    go_wp2_with (go_at_call 52; refine (C.out _ (hx.ext (by (repeat' (first | (with_reducible exact Below.refl _ _) | (with_reducible refine Below.mono (by assumption) ?_) | (with_reducible refine Below.trans ?_ (Below.mono (by assumption) ?_)) | (with_reducible refine Below.alloc ?_ ?_ _) | (with_reducible refine Below.drew ?_) | (with_reducible refine below_drewN ?_ _) | (with_reducible refine Below.setCell ?_ ?_ _) | (simp only [World.size_alloc, World.size_setCell, World.size_drew, size_drewN]; omega) | omega))))).mono ?_; rintro e w1 ⟨rfl, hb⟩; obtain ⟨hc, hf, hz, hs⟩ := bcell hb; (try simp only [World.size_alloc, World.size_setCell, World.size_drew, size_drewN] at hs); (first | have l0 := Nat.lt_of_lt_of_le l0 (show _ ≤ w1.heap.size by omega) | have l0 : w.heap.size < w1.heap.size := (by omega) | skip); (try have l0e := Nat.le_of_lt l0); (try have l0f := Nat.le_add_right_of_le (k := 1) l0e); (try have l1 := Nat.lt_of_lt_of_le l1 (show _ ≤ w1.heap.size by omega)); (try have l1e := Nat.le_of_lt l1); (try have l1f := Nat.le_add_right_of_le (k := 1) l1e); (try have l2 := Nat.lt_of_lt_of_le l2 (show _ ≤ w1.heap.size by omega)); (try have l2e := Nat.le_of_lt l2); (try have l2f := Nat.le_add_right_of_le (k := 1) l2e); (try have l3 := Nat.lt_of_lt_of_le l3 (show _ ≤ w1.heap.size by omega)); (try have l3e := Nat.le_of_lt l3); (try have l3f := Nat.le_add_right_of_le (k := 1) l3e))
    go_ret
    exact ⟨_, rfl, Own3.nil, by (repeat' (first | (with_reducible exact Below.refl _ _) | (with_reducible refine Below.mono (by assumption) ?_) | (with_reducible refine Below.trans ?_ (Below.mono (by assumption) ?_)) | (with_reducible refine Below.alloc ?_ ?_ _) | (with_reducible refine Below.drew ?_) | (with_reducible refine below_drewN ?_ _) | (with_reducible refine Below.setCell ?_ ?_ _) | (simp only [World.size_alloc, World.size_setCell, World.size_drew, size_drewN]; omega) | omega))⟩
  | true =>
    rw [hv] at C
    have C := Lib.hid C
    clear hv
    rw [if_pos rfl]
    go_enter Tryd.func20, Tryd.ntmps20
    go_wp2_with (first | (go_at_call 52; refine (C.out _ (hx.ext (by (repeat' (first | (with_reducible exact Below.refl _ _) | (with_reducible refine Below.mono (by assumption) ?_) | (with_reducible refine Below.trans ?_ (Below.mono (by assumption) ?_)) | (with_reducible refine Below.alloc ?_ ?_ _) | (with_reducible refine Below.drew ?_) | (with_reducible refine below_drewN ?_ _) | (with_reducible refine Below.setCell ?_ ?_ _) | (simp only [World.size_alloc, World.size_setCell, World.size_drew, size_drewN]; omega) | omega))))).mono ?_; rintro e w1 ⟨rfl, hb⟩; obtain ⟨hc, hf, hz, hs⟩ := bcell hb; (try simp only [World.size_alloc, World.size_setCell, World.size_drew, size_drewN] at hs); (first | have l0 := Nat.lt_of_lt_of_le l0 (show _ ≤ w1.heap.size by omega) | have l0 : w.heap.size < w1.heap.size := (by omega) | skip); (try have l0e := Nat.le_of_lt l0); (try have l0f := Nat.le_add_right_of_le (k := 1) l0e); (try have l1 := Nat.lt_of_lt_of_le l1 (show _ ≤ w1.heap.size by omega)); (try have l1e := Nat.le_of_lt l1); (try have l1f := Nat.le_add_right_of_le (k := 1) l1e); (try have l2 := Nat.lt_of_lt_of_le l2 (show _ ≤ w1.heap.size by omega)); (try have l2e := Nat.le_of_lt l2); (try have l2f := Nat.le_add_right_of_le (k := 1) l2e); (try have l3 := Nat.lt_of_lt_of_le l3 (show _ ≤ w1.heap.size by omega)); (try have l3e := Nat.le_of_lt l3); (try have l3f := Nat.le_add_right_of_le (k := 1) l3e)) | (go_at_call 53; refine (lastWritesO_c t S A c _ (hx.ext (by (repeat' (first | (with_reducible exact Below.refl _ _) | (with_reducible refine Below.mono (by assumption) ?_) | (with_reducible refine Below.trans ?_ (Below.mono (by assumption) ?_)) | (with_reducible refine Below.alloc ?_ ?_ _) | (with_reducible refine Below.drew ?_) | (with_reducible refine below_drewN ?_ _) | (with_reducible refine Below.setCell ?_ ?_ _) | (simp only [World.size_alloc, World.size_setCell, World.size_drew, size_drewN]; omega) | omega)))) hn).mono ?_; rintro e w2 ⟨v2, rfl, hO2, hb2⟩; have HO := Lib.hid hO2; clear hO2))
    have h1 := hb.size
    have h2 := hb2.size
    simp only [World.size_alloc] at h1 h2
    go_ret
    exact ⟨_, rfl, HO.out.below (by omega), by (repeat' (first | (with_reducible exact Below.refl _ _) | (with_reducible refine Below.mono (by assumption) ?_) | (with_reducible refine Below.trans ?_ (Below.mono (by assumption) ?_)) | (with_reducible refine Below.alloc ?_ ?_ _) | (with_reducible refine Below.drew ?_) | (with_reducible refine below_drewN ?_ _) | (with_reducible refine Below.setCell ?_ ?_ _) | (simp only [World.size_alloc, World.size_setCell, World.size_drew, size_drewN]; omega) | omega))⟩
theorem box_atW {W0 W : World} {B : Nat} {cs : List Value} {t : TypeId} (hB : B = W0.heap.size) (hE : Ext (W0.alloc (.cells cs.toArray t)) W) : ∀ j u, cs[j]? = some u → W.cell? (Addr.add ⟨B, 0, none⟩ j) = some u := by
  intro j u hu
  have h1 : (W0.alloc (.cells cs.toArray t)).cell? ⟨W0.heap.size, j, none⟩ = some u := by rw [lit_cell]; simpa using hu
  have h2 := hE.keep (by simp) h1
  subst hB
  unfold Addr.add
  split
  · rename_i h0
    have h0 : j = 0 := by simpa using h0
    subst h0
    exact h2
  · simpa using h2
theorem flatP_oneW (ps : List PT) : ∀ u ∈ flatP ps, u.oneCell' = true := by
  intro u hu
  simp only [flatP, List.mem_flatMap] at hu
  obtain ⟨p, _, hu⟩ := hu
  simp [PT.cells] at hu
  rcases hu with rfl | rfl | rfl <;> rfl
theorem step_appT {ops : Array Oper} {o : Oper} {a : Act} {w : World} {K : Act → World → Prop} {Q : Exit → Act → World → Prop} {E : Prop} (hg : o.guard = none) (s x : Operand)
    (hop : o.op = Op.call { callee := Callee.builtin Builtin.append, args := #[s, x], argTypes := #[23, 23] }) (base : Nat) (v : Value) (hs : a.eval s = v) (n : Nat) (ps : List PT) (hown : w.ownsRow base 32 3 v n (flatP ps)) (B : Nat) (p : PT) (hx : a.eval x = .slice (some ⟨B, 0, none⟩) 1 1)
    (hsrc : ∀ j u, p.cells[j]? = some u → w.cell? (Addr.add ⟨B, 0, none⟩ j) = some u) (h8 : n ≤ 1000) (hbase : base ≤ w.heap.size)
    (hK : ∀ v' w', w'.ownsRow base 32 3 v' (n + 1) (flatP (ps ++ [p])) → w.grownBy w' v.ownBlock → K (a.put o.dst v') w') :
    if Region.wanted o (yielded ops a.tmps) = true then Oper.wp Tryd.prog o a w K Q else E := by
  obtain ⟨i0, hi, hz0, hz1, hz2⟩ := info_parts infoTxnD
  refine step_append_lies w hg s x _ hop base _ i0 _ 3 40 Tryd.underlying23 hi hz0 hz1 hz2 rfl (by decide) v n (flatP ps) hs hown ⟨B, 0, none⟩ 1 1 p.cells hx rfl hsrc ?_ (by omega) (by unfold maxLen; omega) (by omega) hbase _ rfl (fun g cap w' h1 h2 _ _ => hK _ w' ?_ h2)
  · have := flatP_oneW [p]
    simpa [flatP] using this
  · rw [flatP_app]
    simpa [flatP] using h1
/-- a history of the call's own with one more transaction -/
theorem OwnT.more {w w' : World} {B lim : Nat} {v v' : Value} {ps : List PT} {p : PT} (hown : OwnT w B lim v ps) (hp : Own3 w B 34 (.slice p.A p.ops.length p.c) p.ops) (hpl : ∀ a, p.A = some a → a.block < w.heap.size) (hlim : lim ≤ w.heap.size)
    (h1 : w'.ownsRow B 32 3 v' (ps.length + 1) (flatP (ps ++ [p]))) (h2 : w.grownBy w' v.ownBlock) : OwnT w' B w.heap.size v' (ps ++ [p]) := by
  refine ⟨by simpa using h1, fun q hq => ?_⟩
  rcases List.mem_append.1 hq with hq | hq
  · exact ⟨World.ownsRow.kept (hown.2 q hq).1 h2 (own_ne (hown.2 q hq).1 hown.1 (by decide)), fun a ha => Nat.lt_of_lt_of_le ((hown.2 q hq).2 a ha) hlim⟩
  · obtain rfl := List.mem_singleton.1 hq
    exact ⟨World.ownsRow.kept hp h2 (own_ne hp hown.1 (by decide)), hpl⟩
end Go.Proofs.YtdgfipoibnjhaaaDoor

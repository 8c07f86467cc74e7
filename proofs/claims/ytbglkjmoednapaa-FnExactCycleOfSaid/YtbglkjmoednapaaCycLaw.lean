/-
  For all edges and every number of nodes, the program's CycleOf returns what the reference's returns, in memory of its own, and leaves its argument as it was. No conditions.
-/
import Derived.Test.YtbglkjmoednapaaLaw
import Derived.Test.YtbglkjmoednapaaCycI
import Derived.OpenShut
import Derived.Deep.RegionWith
namespace Go.Proofs.Ytbglkjmoednapaa
set_option linter.unusedSimpArgs false
set_option linter.unusedVariables false
set_option maxRecDepth 100000
open Go.ChangeShapes Go.WideShapes Go.ChangeAt Go.RowKit Go.Joins

set_option maxHeartbeats 8000000 in
theorem FnExactCycleOf_c (many : Int) (L : List T3) (A : Option Addr) (c : Nat)  (w : World) (_wm : Law.wfI many) (hx : Ops Any w A L) (wf : Law.wfL Law.wfT3 L)  :
    Calls Try.prog 3 #[.int .i64 many, .slice A L.length c] w fun e w' => e = .returned (.bool true) ∧ Ext w w' := by
  have C := fun w => szEdgeS_c A L.length c 1048576 wf.1 (by omega) (by omega) w
  have hn : 0 ≤ szf 1048576 L.length → L.length ≤ 1048576 := szf_ok
  rcases szf_cases 1048576 L.length with h | h
  · rw [h] at C
    have C := Lib.hid C
    clear hn h
    go_enter Try.func3, Try.ntmps3
    go_wp2_with (go_at_call 4; refine (C.out _).mono ?_; rintro e w' ⟨rfl, rfl⟩)
    go_ret
    exact ⟨rfl, Below.refl _ _⟩
  · have hn := hn h
    generalize szf 1048576 L.length = r at C h
    have C := Lib.hid C
    have CS := fun S A c w hx => specCycleOf_c many L S A c  w hx hn
    have CI := fun S A c w hx => implCycleOf_c many L S A c  w hx hn
    have hL : (cycV many L).length ≤ 1048576 := by
      have := (show (cycV many L).length ≤ 7 from cycV_len many L)
      omega
    generalize cycV many L = R at CS CI hL
    have CS := Lib.hid CS
    have CI := Lib.hid CI
    have hbb : True := trivial
    go_enter Try.func3, Try.ntmps3
    go_wp2_with (fail)
    refine (C.out _).mono ?_
    rintro e w' ⟨rfl, rfl⟩
    go_wp2_with (fail)
    go_at_call 6
    refine (toEdgeS_c L _ _ _ _ hx hn).mono ?_
    rintro e w2 ⟨A2, rfl, hA2, hf2, hb⟩
    obtain ⟨hc, hf, hz, hs⟩ := bcell hb
    (try simp only [World.size_alloc, World.size_setCell, World.size_drew, size_drewN] at hs); (first | have l0 := Nat.lt_of_lt_of_le l0 (show _ ≤ w2.heap.size by omega) | have l0 : w.heap.size < w2.heap.size := (by omega) | skip); (try have l0e := Nat.le_of_lt l0); (try have l0f := Nat.le_add_right_of_le (k := 1) l0e); (try have l1 := Nat.lt_of_lt_of_le l1 (show _ ≤ w2.heap.size by omega)); (try have l1e := Nat.le_of_lt l1); (try have l1f := Nat.le_add_right_of_le (k := 1) l1e); (try have l2 := Nat.lt_of_lt_of_le l2 (show _ ≤ w2.heap.size by omega)); (try have l2e := Nat.le_of_lt l2); (try have l2f := Nat.le_add_right_of_le (k := 1) l2e); (try have l3 := Nat.lt_of_lt_of_le l3 (show _ ≤ w2.heap.size by omega)); (try have l3e := Nat.le_of_lt l3); (try have l3f := Nat.le_add_right_of_le (k := 1) l3e)
    have e2 : Ext w w2 := by (repeat' (first | (with_reducible exact Below.refl _ _) | (with_reducible refine Below.mono (by assumption) ?_) | (with_reducible refine Below.trans ?_ (Below.mono (by assumption) ?_)) | (with_reducible refine Below.alloc ?_ ?_ _) | (with_reducible refine Below.drew ?_) | (with_reducible refine below_drewN ?_ _) | (with_reducible refine Below.setCell ?_ ?_ _) | (simp only [World.size_alloc, World.size_setCell, World.size_drew, size_drewN]; omega) | omega))
    go_wp2_with (fail)
    go_at_call 5
    refine (CS.out _ _ _ _ hA2).mono ?_
    rintro e w3 ⟨A3, c3, rfl, hW, hf3, hb⟩
    obtain ⟨hc, hf, hz, hs⟩ := bcell hb
    (try simp only [World.size_alloc, World.size_setCell, World.size_drew, size_drewN] at hs); (first | have l0 := Nat.lt_of_lt_of_le l0 (show _ ≤ w3.heap.size by omega) | have l0 : w.heap.size < w3.heap.size := (by omega) | skip); (try have l0e := Nat.le_of_lt l0); (try have l0f := Nat.le_add_right_of_le (k := 1) l0e); (try have l1 := Nat.lt_of_lt_of_le l1 (show _ ≤ w3.heap.size by omega)); (try have l1e := Nat.le_of_lt l1); (try have l1f := Nat.le_add_right_of_le (k := 1) l1e); (try have l2 := Nat.lt_of_lt_of_le l2 (show _ ≤ w3.heap.size by omega)); (try have l2e := Nat.le_of_lt l2); (try have l2f := Nat.le_add_right_of_le (k := 1) l2e); (try have l3 := Nat.lt_of_lt_of_le l3 (show _ ≤ w3.heap.size by omega)); (try have l3e := Nat.le_of_lt l3); (try have l3f := Nat.le_add_right_of_le (k := 1) l3e)
    have e3 := e2.tr hb
    clear hA2 hf3 hf2
    go_wp2_with (fail)
    go_at_call 6
    refine (toEdgeS_c L _ _ _ _ (hx.ext e3) hn).mono ?_
    rintro e w4 ⟨A4, rfl, hA4, hf4, hb⟩
    obtain ⟨hc, hf, hz, hs⟩ := bcell hb
    (try simp only [World.size_alloc, World.size_setCell, World.size_drew, size_drewN] at hs); (first | have l0 := Nat.lt_of_lt_of_le l0 (show _ ≤ w4.heap.size by omega) | have l0 : w.heap.size < w4.heap.size := (by omega) | skip); (try have l0e := Nat.le_of_lt l0); (try have l0f := Nat.le_add_right_of_le (k := 1) l0e); (try have l1 := Nat.lt_of_lt_of_le l1 (show _ ≤ w4.heap.size by omega)); (try have l1e := Nat.le_of_lt l1); (try have l1f := Nat.le_add_right_of_le (k := 1) l1e); (try have l2 := Nat.lt_of_lt_of_le l2 (show _ ≤ w4.heap.size by omega)); (try have l2e := Nat.le_of_lt l2); (try have l2f := Nat.le_add_right_of_le (k := 1) l2e); (try have l3 := Nat.lt_of_lt_of_le l3 (show _ ≤ w4.heap.size by omega)); (try have l3e := Nat.le_of_lt l3); (try have l3f := Nat.le_add_right_of_le (k := 1) l3e)
    have e4 := e3.tr hb
    have d4 := hb
    have z34 := hb.size
    have hr4 := Free.row hf4
    go_wp2_with (fail)
    go_at_call 7
    refine (CI.out _ _ _ _ hA4).mono ?_
    rintro e w5 ⟨A5, c5, rfl, hG0, hf5, hb⟩
    obtain ⟨hc, hf, hz, hs⟩ := bcell hb
    (try simp only [World.size_alloc, World.size_setCell, World.size_drew, size_drewN] at hs); (first | have l0 := Nat.lt_of_lt_of_le l0 (show _ ≤ w5.heap.size by omega) | have l0 : w.heap.size < w5.heap.size := (by omega) | skip); (try have l0e := Nat.le_of_lt l0); (try have l0f := Nat.le_add_right_of_le (k := 1) l0e); (try have l1 := Nat.lt_of_lt_of_le l1 (show _ ≤ w5.heap.size by omega)); (try have l1e := Nat.le_of_lt l1); (try have l1f := Nat.le_add_right_of_le (k := 1) l1e); (try have l2 := Nat.lt_of_lt_of_le l2 (show _ ≤ w5.heap.size by omega)); (try have l2e := Nat.le_of_lt l2); (try have l2f := Nat.le_add_right_of_le (k := 1) l2e); (try have l3 := Nat.lt_of_lt_of_le l3 (show _ ≤ w5.heap.size by omega)); (try have l3e := Nat.le_of_lt l3); (try have l3f := Nat.le_add_right_of_le (k := 1) l3e)
    have hG : RI w4.heap.size w5 A5 R := ⟨hG0, hf5⟩
    clear hG0 hf5
    have d5 := d4.tr hb
    have hA5 := hA4.ext hb
    have hf45 := Free.ext hf4 hb
    clear hA4 hf4
    go_wp2_with (fail)
    go_at_call 8
    refine (eqIntS_c R _ _ _ _ _ _ _ hG.1 (hW.ext d5) hL).mono ?_
    rintro e w6 ⟨rfl, hb⟩
    obtain ⟨hc, hf, hz, hs⟩ := bcell hb
    (try simp only [World.size_alloc, World.size_setCell, World.size_drew, size_drewN] at hs); (first | have l0 := Nat.lt_of_lt_of_le l0 (show _ ≤ w6.heap.size by omega) | have l0 : w.heap.size < w6.heap.size := (by omega) | skip); (try have l0e := Nat.le_of_lt l0); (try have l0f := Nat.le_add_right_of_le (k := 1) l0e); (try have l1 := Nat.lt_of_lt_of_le l1 (show _ ≤ w6.heap.size by omega)); (try have l1e := Nat.le_of_lt l1); (try have l1f := Nat.le_add_right_of_le (k := 1) l1e); (try have l2 := Nat.lt_of_lt_of_le l2 (show _ ≤ w6.heap.size by omega)); (try have l2e := Nat.le_of_lt l2); (try have l2f := Nat.le_add_right_of_le (k := 1) l2e); (try have l3 := Nat.lt_of_lt_of_le l3 (show _ ≤ w6.heap.size by omega)); (try have l3e := Nat.le_of_lt l3); (try have l3f := Nat.le_add_right_of_le (k := 1) l3e)
    have d6 := d5.tr hb
    have hA6 := hA5.ext hb
    have hG6 := hG.ext hb
    have hf46 := Free.ext hf45 hb
    clear hA5 hG hf45
    go_wp2_with (fail)
    go_at_call 6
    refine (toEdgeS_c L _ _ _ _ (hx.ext (e3.tr d6)) hn).mono ?_
    rintro e w7 ⟨A7, rfl, hA7, hf7, hb⟩
    obtain ⟨hc, hf, hz, hs⟩ := bcell hb
    (try simp only [World.size_alloc, World.size_setCell, World.size_drew, size_drewN] at hs); (first | have l0 := Nat.lt_of_lt_of_le l0 (show _ ≤ w7.heap.size by omega) | have l0 : w.heap.size < w7.heap.size := (by omega) | skip); (try have l0e := Nat.le_of_lt l0); (try have l0f := Nat.le_add_right_of_le (k := 1) l0e); (try have l1 := Nat.lt_of_lt_of_le l1 (show _ ≤ w7.heap.size by omega)); (try have l1e := Nat.le_of_lt l1); (try have l1f := Nat.le_add_right_of_le (k := 1) l1e); (try have l2 := Nat.lt_of_lt_of_le l2 (show _ ≤ w7.heap.size by omega)); (try have l2e := Nat.le_of_lt l2); (try have l2f := Nat.le_add_right_of_le (k := 1) l2e); (try have l3 := Nat.lt_of_lt_of_le l3 (show _ ≤ w7.heap.size by omega)); (try have l3e := Nat.le_of_lt l3); (try have l3f := Nat.le_add_right_of_le (k := 1) l3e)
    have d7 := d6.tr hb
    have hG7 := hG6.ext hb
    have hA67 := hA6.ext hb
    have hf47 := Free.ext hf46 hb
    clear hG6 hA6 hf7 hf46
    go_wp2_with (fail)
    go_at_call 9
    refine (eqEdgeS_c L _ _ _ _ _ _ _ hA67 hA7 hn).mono ?_
    rintro e w8 ⟨rfl, hb⟩
    obtain ⟨hc, hf, hz, hs⟩ := bcell hb
    (try simp only [World.size_alloc, World.size_setCell, World.size_drew, size_drewN] at hs); (first | have l0 := Nat.lt_of_lt_of_le l0 (show _ ≤ w8.heap.size by omega) | have l0 : w.heap.size < w8.heap.size := (by omega) | skip); (try have l0e := Nat.le_of_lt l0); (try have l0f := Nat.le_add_right_of_le (k := 1) l0e); (try have l1 := Nat.lt_of_lt_of_le l1 (show _ ≤ w8.heap.size by omega)); (try have l1e := Nat.le_of_lt l1); (try have l1f := Nat.le_add_right_of_le (k := 1) l1e); (try have l2 := Nat.lt_of_lt_of_le l2 (show _ ≤ w8.heap.size by omega)); (try have l2e := Nat.le_of_lt l2); (try have l2f := Nat.le_add_right_of_le (k := 1) l2e); (try have l3 := Nat.lt_of_lt_of_le l3 (show _ ≤ w8.heap.size by omega)); (try have l3e := Nat.le_of_lt l3); (try have l3f := Nat.le_add_right_of_le (k := 1) l3e)
    have d8 := d7.tr hb
    have hG8 := hG7.ext hb
    have hA8 := hA67.ext hb
    have hf48 := Free.ext hf47 hb
    clear hG7 hA67 hA7 hf47
    go_wp2_with (fail)
    refine (markEdgeS_c L _ _ _ 1 _ hA8 (fun a ha => (hf48 a ha).2.2) hn (by omega) (by omega)).mono ?_
    rintro e w9 ⟨rfl, hM9, hg9, hf9⟩
    have hw9 : Within w3.heap.size w4.heap.size w8 w9 := Within.grown hg9 hr4
    have d9 : Ext w3 w9 := Within.old d8 hw9 (Nat.le_refl _)
    have hG9 := hG8.within hw9 (Nat.le_refl _)
    have hlo9 : ((1 : Int) + 3 * (L.length : Int) < 0) = False := by simp; omega
    clear hA8 hG8 hw9 hM9 hf9 hg9 hf48 hc hf hz hs
    go_wp2_with (fail)
    go_at_call 8
    refine (eqIntS_c R _ _ _ _ _ _ _ hG9.1 (hW.ext d9) hL).mono ?_
    rintro e w10 ⟨rfl, hb⟩
    obtain ⟨hc, hf, hz, hs⟩ := bcell hb
    (try simp only [World.size_alloc, World.size_setCell, World.size_drew, size_drewN] at hs); (first | have l0 := Nat.lt_of_lt_of_le l0 (show _ ≤ w10.heap.size by omega) | have l0 : w.heap.size < w10.heap.size := (by omega) | skip); (try have l0e := Nat.le_of_lt l0); (try have l0f := Nat.le_add_right_of_le (k := 1) l0e); (try have l1 := Nat.lt_of_lt_of_le l1 (show _ ≤ w10.heap.size by omega)); (try have l1e := Nat.le_of_lt l1); (try have l1f := Nat.le_add_right_of_le (k := 1) l1e); (try have l2 := Nat.lt_of_lt_of_le l2 (show _ ≤ w10.heap.size by omega)); (try have l2e := Nat.le_of_lt l2); (try have l2f := Nat.le_add_right_of_le (k := 1) l2e); (try have l3 := Nat.lt_of_lt_of_le l3 (show _ ≤ w10.heap.size by omega)); (try have l3e := Nat.le_of_lt l3); (try have l3f := Nat.le_add_right_of_le (k := 1) l3e)
    have d10 := d9.tr hb
    have hG10 := hG9.ext hb
    clear hG9
    go_wp2_with (fail)
    refine (markRI R _ _ _ _ _ hG10 hL (by omega) (by omega)).mono ?_
    rintro e w11 ⟨rfl, hM0, hw11⟩
    have hM := hM0 rfl
    have d11 : Ext w3 w11 := Within.old d10 hw11 z34
    clear hG10 hw11 hM0 hc hf hz hs hlo9
    have hne : (((1 : Int) + ((R.length : Nat) : Int)) != ((1 : Int) + ((R.length : Nat) : Int))) = false := by simp
    have hlo : ((1 : Int) + ((R.length : Nat) : Int) < 0) = False := by simp; omega
    go_wp2_with (fail)
    refine (heldRI R _ _ _ hM hL).mono ?_
    rintro e w' ⟨rfl, rfl⟩
    go_wp2_with (fail)
    go_at_call 6
    refine (toEdgeS_c L _ _ _ _ (hx.ext (e3.tr d11)) hn).mono ?_
    rintro e w12 ⟨A12, rfl, hA12, hf12, hb⟩
    obtain ⟨hc, hf, hz, hs⟩ := bcell hb
    (try simp only [World.size_alloc, World.size_setCell, World.size_drew, size_drewN] at hs); (first | have l0 := Nat.lt_of_lt_of_le l0 (show _ ≤ w12.heap.size by omega) | have l0 : w.heap.size < w12.heap.size := (by omega) | skip); (try have l0e := Nat.le_of_lt l0); (try have l0f := Nat.le_add_right_of_le (k := 1) l0e); (try have l1 := Nat.lt_of_lt_of_le l1 (show _ ≤ w12.heap.size by omega)); (try have l1e := Nat.le_of_lt l1); (try have l1f := Nat.le_add_right_of_le (k := 1) l1e); (try have l2 := Nat.lt_of_lt_of_le l2 (show _ ≤ w12.heap.size by omega)); (try have l2e := Nat.le_of_lt l2); (try have l2f := Nat.le_add_right_of_le (k := 1) l2e); (try have l3 := Nat.lt_of_lt_of_le l3 (show _ ≤ w12.heap.size by omega)); (try have l3e := Nat.le_of_lt l3); (try have l3f := Nat.le_add_right_of_le (k := 1) l3e)
    have d12 := d11.tr hb
    have hM12 := hM.ext hb
    clear hM hf12
    go_wp2_with (fail)
    go_at_call 7
    refine (CI.out _ _ _ _ hA12).mono ?_
    rintro e w13 ⟨A13, c13, rfl, hH, hf13, hb⟩
    obtain ⟨hc, hf, hz, hs⟩ := bcell hb
    (try simp only [World.size_alloc, World.size_setCell, World.size_drew, size_drewN] at hs); (first | have l0 := Nat.lt_of_lt_of_le l0 (show _ ≤ w13.heap.size by omega) | have l0 : w.heap.size < w13.heap.size := (by omega) | skip); (try have l0e := Nat.le_of_lt l0); (try have l0f := Nat.le_add_right_of_le (k := 1) l0e); (try have l1 := Nat.lt_of_lt_of_le l1 (show _ ≤ w13.heap.size by omega)); (try have l1e := Nat.le_of_lt l1); (try have l1f := Nat.le_add_right_of_le (k := 1) l1e); (try have l2 := Nat.lt_of_lt_of_le l2 (show _ ≤ w13.heap.size by omega)); (try have l2e := Nat.le_of_lt l2); (try have l2f := Nat.le_add_right_of_le (k := 1) l2e); (try have l3 := Nat.lt_of_lt_of_le l3 (show _ ≤ w13.heap.size by omega)); (try have l3e := Nat.le_of_lt l3); (try have l3f := Nat.le_add_right_of_le (k := 1) l3e)
    have d13 := d12.tr hb
    have hM13 := hM12.ext hb
    clear hM12 hA12 hf13
    go_wp2_with (fail)
    go_at_call 8
    refine (eqIntS_c R _ _ _ _ _ _ _ hH (hW.ext d13) hL).mono ?_
    rintro e w14 ⟨rfl, hb⟩
    obtain ⟨hc, hf, hz, hs⟩ := bcell hb
    (try simp only [World.size_alloc, World.size_setCell, World.size_drew, size_drewN] at hs); (first | have l0 := Nat.lt_of_lt_of_le l0 (show _ ≤ w14.heap.size by omega) | have l0 : w.heap.size < w14.heap.size := (by omega) | skip); (try have l0e := Nat.le_of_lt l0); (try have l0f := Nat.le_add_right_of_le (k := 1) l0e); (try have l1 := Nat.lt_of_lt_of_le l1 (show _ ≤ w14.heap.size by omega)); (try have l1e := Nat.le_of_lt l1); (try have l1f := Nat.le_add_right_of_le (k := 1) l1e); (try have l2 := Nat.lt_of_lt_of_le l2 (show _ ≤ w14.heap.size by omega)); (try have l2e := Nat.le_of_lt l2); (try have l2f := Nat.le_add_right_of_le (k := 1) l2e); (try have l3 := Nat.lt_of_lt_of_le l3 (show _ ≤ w14.heap.size by omega)); (try have l3e := Nat.le_of_lt l3); (try have l3f := Nat.le_add_right_of_le (k := 1) l3e)
    have d14 := d13.tr hb
    have hM14 := hM13.ext hb
    clear hM13 hH
    go_wp2_with (fail)
    refine (heldRI R _ _ _ hM14 hL).mono ?_
    rintro e w' ⟨rfl, rfl⟩
    go_wp2
    go_ret
    exact ⟨rfl, e3.tr d14⟩

set_option maxRecDepth 100000 in
theorem FnExactCycleOf_lifted (os : Os) (started : os.Started) (H : Type) (enc : TypeId × Value → H) :
    ReturnsInHanded {} Try.checked os 3 .any (Rows.fnExactCycleOfSpec.pre6 enc Try.prog Try.f3 Rows.fnExactCycleOfRow.domain false) (Rows.fnExactCycleOfSpec.post enc Try.prog Try.f3 false true false false) := by
  refine returnsInHanded_of_change (C := Try.checked) Law.own started (by kernel_rfl) Try.func3
    (ChangeSpec.witness6 (enc := enc) (C := Try.checked) false ⟨#[], #[.int .i64 0, .slice none 0 0], []⟩ 8 (by kernel_rfl) (by kernel_rfl) (by kernel_rfl) (by kernel_rfl)) ?_
  intro W base args ds gs before hval0 hW _ _
  have hval : ∀ (j : Nat) t v, Try.f3.params[j]? = some t → args[j]? = some v → Value.okWide Try.prog W .any base t v := hval0
  have hW' := hW
  obtain ⟨p, q, hA0, hV, rfl, hfz, hnd⟩ := hW
  have hA : DataW.TrodAll enc Try.prog W 0 (fun _ => true) true Try.f3.params.toList args.toList ds p := hA0
  rw [Try.params3] at hA hval
  obtain ⟨v0, vs0, d0, ds0, p0, q0, hargs, hds, rfl, h0, r0⟩ := trodAll_cons hA
  obtain ⟨v1, vs1, d1, ds1, p1, q1, rfl, rfl, rfl, h1, r1⟩ := trodAll_cons r0
  obtain ⟨rfl, rfl, rfl⟩ := trodAll_nil r1
  obtain rfl : args = #[v0, v1] := by cases args; simp_all
  subst hds
  obtain ⟨x0, rfl, _, _, wf0⟩ := open_int Try.underlying3 (hval 0 3 v0 rfl rfl) h0
  obtain ⟨x1, A1, c1, rfl, hO1, wf1⟩ := Law.open_t3s Try.underlying22 Try.underlying38 (by kernel_rfl) (by kernel_rfl) Try.underlying3 Try.underlying3 Try.underlying3 (hval 1 22 v1 rfl rfl) h1
  refine (FnExactCycleOf_c x0 x1 A1 c1 W (Law.wfI_of wf0) hO1 wf1).mono fun e W' ⟨he, hb⟩ => ?_
  subst he
  refine ⟨_, rfl, Law.post_true Law.laidOut ?_ rfl rfl Try.underlying4 ⟨rfl, rfl, rfl⟩ hW' hb⟩
  intro t ht
  rw [Try.params3] at ht
  simp only [List.mem_cons, List.not_mem_nil, or_false] at ht
  first | (rcases ht with rfl | rfl <;> exact ⟨by kernel_rfl, of_decide_eq_true (by kernel_rfl)⟩)

theorem FnExactCycleOf_holds : Rows.FnExactCycleOfSaid :=
  OpenClaim.holds_of_wide 3 Try.f3 rfl rfl rfl rfl rfl rfl rfl ⟨rfl, rfl, rfl, rfl, rfl⟩ rfl rfl rfl rfl rfl (by kernel_rfl) Try.func3 (by kernel_rfl)
    (of_decide_eq_true (by kernel_rfl)) (by unfold Func.isWrapper; first | (rw [if_pos (by decide +kernel)]; kernel_rfl) | (rw [if_neg (by decide +kernel)]; exact ⟨rfl, rfl⟩))
    (fun os started H enc _ => FnExactCycleOf_lifted os started H enc)

end Go.Proofs.Ytbglkjmoednapaa

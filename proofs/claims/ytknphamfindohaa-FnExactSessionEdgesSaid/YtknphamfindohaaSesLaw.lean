/-
  For every history, the program's function returns what the reference's returns, in memory of its own, and leaves its argument as it was. No conditions.
-/
import Derived.Test.YtknphamfindohaaLaw
import Derived.Test.YtknphamfindohaaSesI
import Derived.OpenShut
import Derived.Deep.RegionWith
namespace Go.Proofs.Ytknphamfindohaa
set_option linter.unusedSimpArgs false
set_option linter.unusedVariables false
set_option maxRecDepth 100000
open Go.ChangeShapes Go.WideShapes Go.ChangeAt Go.RowKit Go.Joins

theorem any_txns2 {So Si : Nat → Prop} {w : World} {A : Option Addr} {xs : List TxnT} (h : Txns2 So Si w A xs) : Txns Any w A xs := h.txns (fun _ _ _ => trivial) (fun _ _ _ => trivial)

set_option maxHeartbeats 8000000 in
theorem FnExactSessionEdges_c (h : List TxnT) (A : Option Addr) (c : Nat)  (w : World) (hx : Txns Any w A h) (wf : Law.wfL Law.wfTxn h)  :
    Calls Try.prog 4 #[.slice A h.length c] w fun e w' => e = .returned (.bool true) ∧ Ext w w' := by
  have C := fun w hx => szTxnS_c h Any A c w hx wf.1 (fun t ht => (wf.2 t ht).2.1)
  go_enter Try.func4, Try.ntmps4
  go_wp2_with (go_at_call 8; refine (C _ hx).mono ?_; rintro e w1 ⟨r, rfl, (rfl | ⟨hr, hsm⟩), hb⟩; rotate_left)
  · have e1 : Ext w w1 := hb
    clear hb
    have CS := fun S A c w hx => specSessionEdges_c h S A c  w hx hsm
    have CI := fun S A c w hx => implSessionEdges_c h S A c  w hx hsm
    have hL : (if histv h = true then sesV h else []).length ≤ 1048576 := by
      have := sesV_len h
      have := hsm.len
      first
      | omega
      | (split <;> (first | omega | simp))
    generalize (if histv h = true then sesV h else []) = L at CS CI hL
    have CS := Lib.hid CS
    have CI := Lib.hid CI
    go_wp2_with (fail)
    go_at_call 10
    refine (toTxnS2_c h _ _ _ _ (hx.ext e1) hsm).mono ?_
    rintro e w2 ⟨lim2, rfl, hA2, hb⟩
    obtain ⟨hc, hf, hz, hs⟩ := bcell hb
    (try simp only [World.size_alloc, World.size_setCell, World.size_drew, size_drewN] at hs); (first | have l0 := Nat.lt_of_lt_of_le l0 (show _ ≤ w2.heap.size by omega) | have l0 : w.heap.size < w2.heap.size := (by omega) | skip); (try have l0e := Nat.le_of_lt l0); (try have l0f := Nat.le_add_right_of_le (k := 1) l0e); (try have l1 := Nat.lt_of_lt_of_le l1 (show _ ≤ w2.heap.size by omega)); (try have l1e := Nat.le_of_lt l1); (try have l1f := Nat.le_add_right_of_le (k := 1) l1e); (try have l2 := Nat.lt_of_lt_of_le l2 (show _ ≤ w2.heap.size by omega)); (try have l2e := Nat.le_of_lt l2); (try have l2f := Nat.le_add_right_of_le (k := 1) l2e); (try have l3 := Nat.lt_of_lt_of_le l3 (show _ ≤ w2.heap.size by omega)); (try have l3e := Nat.le_of_lt l3); (try have l3f := Nat.le_add_right_of_le (k := 1) l3e)
    have e2 := e1.tr hb
    go_wp2_with (fail)
    go_at_call 17
    refine (CS.out _ _ _ _ (any_txns2 hA2.txns)).mono ?_
    rintro e w3 ⟨A3, c3, rfl, hW, hf3, hb⟩
    obtain ⟨hc, hf, hz, hs⟩ := bcell hb
    (try simp only [World.size_alloc, World.size_setCell, World.size_drew, size_drewN] at hs); (first | have l0 := Nat.lt_of_lt_of_le l0 (show _ ≤ w3.heap.size by omega) | have l0 : w.heap.size < w3.heap.size := (by omega) | skip); (try have l0e := Nat.le_of_lt l0); (try have l0f := Nat.le_add_right_of_le (k := 1) l0e); (try have l1 := Nat.lt_of_lt_of_le l1 (show _ ≤ w3.heap.size by omega)); (try have l1e := Nat.le_of_lt l1); (try have l1f := Nat.le_add_right_of_le (k := 1) l1e); (try have l2 := Nat.lt_of_lt_of_le l2 (show _ ≤ w3.heap.size by omega)); (try have l2e := Nat.le_of_lt l2); (try have l2f := Nat.le_add_right_of_le (k := 1) l2e); (try have l3 := Nat.lt_of_lt_of_le l3 (show _ ≤ w3.heap.size by omega)); (try have l3e := Nat.le_of_lt l3); (try have l3f := Nat.le_add_right_of_le (k := 1) l3e)
    have e3 := e2.tr hb
    clear hA2 hf3
    go_wp2_with (fail)
    go_at_call 10
    refine (toTxnS2_c h _ _ _ _ (hx.ext e3) hsm).mono ?_
    rintro e w4 ⟨lim4, rfl, hA4, hb⟩
    obtain ⟨hc, hf, hz, hs⟩ := bcell hb
    (try simp only [World.size_alloc, World.size_setCell, World.size_drew, size_drewN] at hs); (first | have l0 := Nat.lt_of_lt_of_le l0 (show _ ≤ w4.heap.size by omega) | have l0 : w.heap.size < w4.heap.size := (by omega) | skip); (try have l0e := Nat.le_of_lt l0); (try have l0f := Nat.le_add_right_of_le (k := 1) l0e); (try have l1 := Nat.lt_of_lt_of_le l1 (show _ ≤ w4.heap.size by omega)); (try have l1e := Nat.le_of_lt l1); (try have l1f := Nat.le_add_right_of_le (k := 1) l1e); (try have l2 := Nat.lt_of_lt_of_le l2 (show _ ≤ w4.heap.size by omega)); (try have l2e := Nat.le_of_lt l2); (try have l2f := Nat.le_add_right_of_le (k := 1) l2e); (try have l3 := Nat.lt_of_lt_of_le l3 (show _ ≤ w4.heap.size by omega)); (try have l3e := Nat.le_of_lt l3); (try have l3f := Nat.le_add_right_of_le (k := 1) l3e)
    have e4 := e3.tr hb
    have d4 := hb
    have z34 := hb.size
    have hlim : lim4 h.length ≤ w4.heap.size := by obtain ⟨_, _, hq⟩ := hA4; exact hq.2.2.2.1
    go_wp2_with (fail)
    go_at_call 18
    refine (CI.out _ _ _ _ (any_txns2 hA4.txns)).mono ?_
    rintro e w5 ⟨A5, c5, rfl, hG0, hf5, hb⟩
    obtain ⟨hc, hf, hz, hs⟩ := bcell hb
    (try simp only [World.size_alloc, World.size_setCell, World.size_drew, size_drewN] at hs); (first | have l0 := Nat.lt_of_lt_of_le l0 (show _ ≤ w5.heap.size by omega) | have l0 : w.heap.size < w5.heap.size := (by omega) | skip); (try have l0e := Nat.le_of_lt l0); (try have l0f := Nat.le_add_right_of_le (k := 1) l0e); (try have l1 := Nat.lt_of_lt_of_le l1 (show _ ≤ w5.heap.size by omega)); (try have l1e := Nat.le_of_lt l1); (try have l1f := Nat.le_add_right_of_le (k := 1) l1e); (try have l2 := Nat.lt_of_lt_of_le l2 (show _ ≤ w5.heap.size by omega)); (try have l2e := Nat.le_of_lt l2); (try have l2f := Nat.le_add_right_of_le (k := 1) l2e); (try have l3 := Nat.lt_of_lt_of_le l3 (show _ ≤ w5.heap.size by omega)); (try have l3e := Nat.le_of_lt l3); (try have l3f := Nat.le_add_right_of_le (k := 1) l3e)
    have hG : R3s w4.heap.size w5 A5 L := ⟨hG0, hf5⟩
    clear hG0 hf5
    have d5 := d4.tr hb
    have hA5 := hA4.ext hb
    clear hA4
    go_wp2_with (fail)
    go_at_call 19
    refine (eqEdgeS_c L _ _ _ _ _ _ _ hG.1 (hW.ext d5) hL).mono ?_
    rintro e w6 ⟨rfl, hb⟩
    obtain ⟨hc, hf, hz, hs⟩ := bcell hb
    (try simp only [World.size_alloc, World.size_setCell, World.size_drew, size_drewN] at hs); (first | have l0 := Nat.lt_of_lt_of_le l0 (show _ ≤ w6.heap.size by omega) | have l0 : w.heap.size < w6.heap.size := (by omega) | skip); (try have l0e := Nat.le_of_lt l0); (try have l0f := Nat.le_add_right_of_le (k := 1) l0e); (try have l1 := Nat.lt_of_lt_of_le l1 (show _ ≤ w6.heap.size by omega)); (try have l1e := Nat.le_of_lt l1); (try have l1f := Nat.le_add_right_of_le (k := 1) l1e); (try have l2 := Nat.lt_of_lt_of_le l2 (show _ ≤ w6.heap.size by omega)); (try have l2e := Nat.le_of_lt l2); (try have l2f := Nat.le_add_right_of_le (k := 1) l2e); (try have l3 := Nat.lt_of_lt_of_le l3 (show _ ≤ w6.heap.size by omega)); (try have l3e := Nat.le_of_lt l3); (try have l3f := Nat.le_add_right_of_le (k := 1) l3e)
    have d6 := d5.tr hb
    have hA6 := hA5.ext hb
    have hG6 := hG.ext hb
    clear hA5 hG
    go_wp2_with (fail)
    go_at_call 10
    refine (toTxnS2_c h _ _ _ _ (hx.ext (e3.tr d6)) hsm).mono ?_
    rintro e w7 ⟨lim7, rfl, hA7, hb⟩
    obtain ⟨hc, hf, hz, hs⟩ := bcell hb
    (try simp only [World.size_alloc, World.size_setCell, World.size_drew, size_drewN] at hs); (first | have l0 := Nat.lt_of_lt_of_le l0 (show _ ≤ w7.heap.size by omega) | have l0 : w.heap.size < w7.heap.size := (by omega) | skip); (try have l0e := Nat.le_of_lt l0); (try have l0f := Nat.le_add_right_of_le (k := 1) l0e); (try have l1 := Nat.lt_of_lt_of_le l1 (show _ ≤ w7.heap.size by omega)); (try have l1e := Nat.le_of_lt l1); (try have l1f := Nat.le_add_right_of_le (k := 1) l1e); (try have l2 := Nat.lt_of_lt_of_le l2 (show _ ≤ w7.heap.size by omega)); (try have l2e := Nat.le_of_lt l2); (try have l2f := Nat.le_add_right_of_le (k := 1) l2e); (try have l3 := Nat.lt_of_lt_of_le l3 (show _ ≤ w7.heap.size by omega)); (try have l3e := Nat.le_of_lt l3); (try have l3f := Nat.le_add_right_of_le (k := 1) l3e)
    have d7 := d6.tr hb
    have hG7 := hG6.ext hb
    have hA67 := hA6.ext hb
    clear hG6 hA6
    go_wp2_with (fail)
    go_at_call 13
    refine (eqTxnS_c h _ _ _ _ _ _ _ (any_txns2 hA67.txns) (any_txns2 hA7.txns) hsm).mono ?_
    rintro e w8 ⟨rfl, hb⟩
    obtain ⟨hc, hf, hz, hs⟩ := bcell hb
    (try simp only [World.size_alloc, World.size_setCell, World.size_drew, size_drewN] at hs); (first | have l0 := Nat.lt_of_lt_of_le l0 (show _ ≤ w8.heap.size by omega) | have l0 : w.heap.size < w8.heap.size := (by omega) | skip); (try have l0e := Nat.le_of_lt l0); (try have l0f := Nat.le_add_right_of_le (k := 1) l0e); (try have l1 := Nat.lt_of_lt_of_le l1 (show _ ≤ w8.heap.size by omega)); (try have l1e := Nat.le_of_lt l1); (try have l1f := Nat.le_add_right_of_le (k := 1) l1e); (try have l2 := Nat.lt_of_lt_of_le l2 (show _ ≤ w8.heap.size by omega)); (try have l2e := Nat.le_of_lt l2); (try have l2f := Nat.le_add_right_of_le (k := 1) l2e); (try have l3 := Nat.lt_of_lt_of_le l3 (show _ ≤ w8.heap.size by omega)); (try have l3e := Nat.le_of_lt l3); (try have l3f := Nat.le_add_right_of_le (k := 1) l3e)
    have d8 := d7.tr hb
    have hG8 := hG7.ext hb
    have hA8 := hA67.ext hb
    clear hG7 hA67 hA7
    go_wp2_with (fail)
    go_at_call 14
    refine (markTxnS_c h _ _ _ hA8 hsm).mono ?_
    rintro e w9 ⟨k9, rfl, hk9, _, hw9⟩
    have d9 : Ext w3 w9 := Within.old d8 hw9 (Nat.le_refl _)
    have hG9 := hG8.within hw9 hlim
    clear hA8 hG8 hw9 hc hf hz hs
    go_wp2_with (fail)
    go_at_call 19
    refine (eqEdgeS_c L _ _ _ _ _ _ _ hG9.1 (hW.ext d9) hL).mono ?_
    rintro e w10 ⟨rfl, hb⟩
    obtain ⟨hc, hf, hz, hs⟩ := bcell hb
    (try simp only [World.size_alloc, World.size_setCell, World.size_drew, size_drewN] at hs); (first | have l0 := Nat.lt_of_lt_of_le l0 (show _ ≤ w10.heap.size by omega) | have l0 : w.heap.size < w10.heap.size := (by omega) | skip); (try have l0e := Nat.le_of_lt l0); (try have l0f := Nat.le_add_right_of_le (k := 1) l0e); (try have l1 := Nat.lt_of_lt_of_le l1 (show _ ≤ w10.heap.size by omega)); (try have l1e := Nat.le_of_lt l1); (try have l1f := Nat.le_add_right_of_le (k := 1) l1e); (try have l2 := Nat.lt_of_lt_of_le l2 (show _ ≤ w10.heap.size by omega)); (try have l2e := Nat.le_of_lt l2); (try have l2f := Nat.le_add_right_of_le (k := 1) l2e); (try have l3 := Nat.lt_of_lt_of_le l3 (show _ ≤ w10.heap.size by omega)); (try have l3e := Nat.le_of_lt l3); (try have l3f := Nat.le_add_right_of_le (k := 1) l3e)
    have d10 := d9.tr hb
    have hG10 := hG9.ext hb
    clear hG9
    go_wp2_with (fail)
    refine (markREdgeS L _ _ _ _ _ hG10 hL (by omega) (by omega)).mono ?_
    rintro e w11 ⟨rfl, hM0, hw11⟩
    have hM := hM0 rfl
    have d11 : Ext w3 w11 := Within.old d10 hw11 z34
    clear hG10 hw11 hM0 hc hf hz hs
    have hne : (((1 : Int) + 3 * ((L.length : Nat) : Int)) != ((1 : Int) + 3 * ((L.length : Nat) : Int))) = false := by simp
    have hlo : ((1 : Int) + 3 * ((L.length : Nat) : Int) < 0) = False := by simp; omega
    go_wp2_with (fail)
    refine (heldREdgeS L _ _ _ hM hL).mono ?_
    rintro e w' ⟨rfl, rfl⟩
    go_wp2_with (fail)
    go_at_call 10
    refine (toTxnS2_c h _ _ _ _ (hx.ext (e3.tr d11)) hsm).mono ?_
    rintro e w12 ⟨lim12, rfl, hA12, hb⟩
    obtain ⟨hc, hf, hz, hs⟩ := bcell hb
    (try simp only [World.size_alloc, World.size_setCell, World.size_drew, size_drewN] at hs); (first | have l0 := Nat.lt_of_lt_of_le l0 (show _ ≤ w12.heap.size by omega) | have l0 : w.heap.size < w12.heap.size := (by omega) | skip); (try have l0e := Nat.le_of_lt l0); (try have l0f := Nat.le_add_right_of_le (k := 1) l0e); (try have l1 := Nat.lt_of_lt_of_le l1 (show _ ≤ w12.heap.size by omega)); (try have l1e := Nat.le_of_lt l1); (try have l1f := Nat.le_add_right_of_le (k := 1) l1e); (try have l2 := Nat.lt_of_lt_of_le l2 (show _ ≤ w12.heap.size by omega)); (try have l2e := Nat.le_of_lt l2); (try have l2f := Nat.le_add_right_of_le (k := 1) l2e); (try have l3 := Nat.lt_of_lt_of_le l3 (show _ ≤ w12.heap.size by omega)); (try have l3e := Nat.le_of_lt l3); (try have l3f := Nat.le_add_right_of_le (k := 1) l3e)
    have d12 := d11.tr hb
    have hM12 := hM.ext hb
    clear hM
    go_wp2_with (fail)
    go_at_call 18
    refine (CI.out _ _ _ _ (any_txns2 hA12.txns)).mono ?_
    rintro e w13 ⟨A13, c13, rfl, hH, hf13, hb⟩
    obtain ⟨hc, hf, hz, hs⟩ := bcell hb
    (try simp only [World.size_alloc, World.size_setCell, World.size_drew, size_drewN] at hs); (first | have l0 := Nat.lt_of_lt_of_le l0 (show _ ≤ w13.heap.size by omega) | have l0 : w.heap.size < w13.heap.size := (by omega) | skip); (try have l0e := Nat.le_of_lt l0); (try have l0f := Nat.le_add_right_of_le (k := 1) l0e); (try have l1 := Nat.lt_of_lt_of_le l1 (show _ ≤ w13.heap.size by omega)); (try have l1e := Nat.le_of_lt l1); (try have l1f := Nat.le_add_right_of_le (k := 1) l1e); (try have l2 := Nat.lt_of_lt_of_le l2 (show _ ≤ w13.heap.size by omega)); (try have l2e := Nat.le_of_lt l2); (try have l2f := Nat.le_add_right_of_le (k := 1) l2e); (try have l3 := Nat.lt_of_lt_of_le l3 (show _ ≤ w13.heap.size by omega)); (try have l3e := Nat.le_of_lt l3); (try have l3f := Nat.le_add_right_of_le (k := 1) l3e)
    have d13 := d12.tr hb
    have hM13 := hM12.ext hb
    clear hM12 hA12 hf13
    go_wp2_with (fail)
    go_at_call 19
    refine (eqEdgeS_c L _ _ _ _ _ _ _ hH (hW.ext d13) hL).mono ?_
    rintro e w14 ⟨rfl, hb⟩
    obtain ⟨hc, hf, hz, hs⟩ := bcell hb
    (try simp only [World.size_alloc, World.size_setCell, World.size_drew, size_drewN] at hs); (first | have l0 := Nat.lt_of_lt_of_le l0 (show _ ≤ w14.heap.size by omega) | have l0 : w.heap.size < w14.heap.size := (by omega) | skip); (try have l0e := Nat.le_of_lt l0); (try have l0f := Nat.le_add_right_of_le (k := 1) l0e); (try have l1 := Nat.lt_of_lt_of_le l1 (show _ ≤ w14.heap.size by omega)); (try have l1e := Nat.le_of_lt l1); (try have l1f := Nat.le_add_right_of_le (k := 1) l1e); (try have l2 := Nat.lt_of_lt_of_le l2 (show _ ≤ w14.heap.size by omega)); (try have l2e := Nat.le_of_lt l2); (try have l2f := Nat.le_add_right_of_le (k := 1) l2e); (try have l3 := Nat.lt_of_lt_of_le l3 (show _ ≤ w14.heap.size by omega)); (try have l3e := Nat.le_of_lt l3); (try have l3f := Nat.le_add_right_of_le (k := 1) l3e)
    have d14 := d13.tr hb
    have hM14 := hM13.ext hb
    clear hM13 hH
    go_wp2_with (fail)
    refine (heldREdgeS L _ _ _ hM14 hL).mono ?_
    rintro e w' ⟨rfl, rfl⟩
    go_wp2
    go_ret
    exact ⟨rfl, e3.tr d14⟩
  · go_ret
    exact ⟨rfl, by (repeat' (first | (with_reducible exact Below.refl _ _) | (with_reducible refine Below.mono (by assumption) ?_) | (with_reducible refine Below.trans ?_ (Below.mono (by assumption) ?_)) | (with_reducible refine Below.alloc ?_ ?_ _) | (with_reducible refine Below.drew ?_) | (with_reducible refine below_drewN ?_ _) | (with_reducible refine Below.setCell ?_ ?_ _) | (simp only [World.size_alloc, World.size_setCell, World.size_drew, size_drewN]; omega) | omega))⟩

set_option maxRecDepth 100000 in
theorem FnExactSessionEdges_lifted (os : Os) (started : os.Started) (H : Type) (enc : TypeId × Value → H) :
    ReturnsInHanded {} Try.checked os 4 .any (Rows.fnExactSessionEdgesSpec.pre6 enc Try.prog Try.f4 Rows.fnExactSessionEdgesRow.domain false) (Rows.fnExactSessionEdgesSpec.post enc Try.prog Try.f4 false true false false) := by
  refine returnsInHanded_of_change (C := Try.checked) Law.own started (by kernel_rfl) Try.func4
    (ChangeSpec.witness6 (enc := enc) (C := Try.checked) false ⟨#[], #[.slice none 0 0], []⟩ 8 (by kernel_rfl) (by kernel_rfl) (by kernel_rfl) (by kernel_rfl)) ?_
  intro W base args ds gs before hval0 hW _ _
  have hval : ∀ (j : Nat) t v, Try.f4.params[j]? = some t → args[j]? = some v → Value.okWide Try.prog W .any base t v := hval0
  have hW' := hW
  obtain ⟨p, q, hA0, hV, rfl, hfz, hnd⟩ := hW
  have hA : DataW.TrodAll enc Try.prog W 0 (fun _ => true) true Try.f4.params.toList args.toList ds p := hA0
  rw [Try.params4] at hA hval
  obtain ⟨v0, vs0, d0, ds0, p0, q0, hargs, hds, rfl, h0, r0⟩ := trodAll_cons hA
  obtain ⟨rfl, rfl, rfl⟩ := trodAll_nil r0
  obtain rfl : args = #[v0] := by cases args; simp_all
  subst hds
  obtain ⟨x0, A0, c0, rfl, hO0, wf0⟩ := Law.open_txns Try.underlying22 Try.underlying50 (by kernel_rfl) (by kernel_rfl) Try.underlying3 Try.underlying48 Try.underlying4 Try.underlying96 (by kernel_rfl) (by kernel_rfl) Try.underlying3 Try.underlying3 Try.underlying3 (hval 0 22 v0 rfl rfl) h0
  refine (FnExactSessionEdges_c x0 A0 c0 W hO0 wf0).mono fun e W' ⟨he, hb⟩ => ?_
  subst he
  refine ⟨_, rfl, Law.post_true Law.laidOut ?_ rfl rfl Try.underlying4 ⟨rfl, rfl, rfl⟩ hW' hb⟩
  intro t ht
  rw [Try.params4] at ht
  simp only [List.mem_cons, List.not_mem_nil, or_false] at ht
  first | (rcases ht with rfl <;> exact ⟨by kernel_rfl, of_decide_eq_true (by kernel_rfl)⟩)

theorem FnExactSessionEdges_holds : Rows.FnExactSessionEdgesSaid :=
  OpenClaim.holds_of_wide 4 Try.f4 rfl rfl rfl rfl rfl rfl rfl ⟨rfl, rfl, rfl, rfl, rfl⟩ rfl rfl rfl rfl rfl (by kernel_rfl) Try.func4 (by kernel_rfl)
    (of_decide_eq_true (by kernel_rfl)) (by unfold Func.isWrapper; first | (rw [if_pos (by decide +kernel)]; kernel_rfl) | (rw [if_neg (by decide +kernel)]; exact ⟨rfl, rfl⟩))
    (fun os started H enc _ => FnExactSessionEdges_lifted os started H enc)

end Go.Proofs.Ytknphamfindohaa

/-
  Contracts of OrdersValid, the reference's and the program's.
-/
import Derived.Test.YtmbdacfgmiielaaGreatGSort16
import Derived.Test.YtmbdacfgmiielaaGreatGLst10
import Derived.Deep.RegionHeld3
namespace Go.Proofs.YtmbdacfgmiielaaGreat
set_option linter.unusedSimpArgs false
set_option linter.unusedVariables false
set_option maxRecDepth 100000
open Go.RowKit

/-- whether the orders are of the installed values -/
def ordV (h : List TxnT) (R : List (List Int)) : Bool := histv h && decide (R.length = 3) && (List.range 3).all fun k => l7v (R.getD k []) (instd h ((k : Nat) : Int))
theorem ordV_true {h : List TxnT} {R : List (List Int)} (hv : histv h = true) (hl : R.length = 3) (ha : ∀ (k : Nat) l, k < 3 → R[k]? = some l → l7v l (instd h ((k : Nat) : Int)) = true) : ordV h R = true := by
  unfold ordV
  rw [Bool.and_eq_true, Bool.and_eq_true, List.all_eq_true]
  refine ⟨⟨hv, decide_eq_true hl⟩, fun k hk => ?_⟩
  have hk3 := List.mem_range.1 hk
  have e : R[k]? = some R[k] := List.getElem?_eq_getElem (by omega)
  rw [List.getD_eq_getElem?_getD, e]
  exact ha k _ hk3 e
theorem ordV_false {h : List TxnT} {R : List (List Int)} {k : Nat} {l : List Int} (hk : k < 3) (hl : R[k]? = some l) (hf : l7v l (instd h ((k : Nat) : Int)) = false) : ordV h R = false := by
  unfold ordV
  rw [Bool.and_eq_false_iff]
  right
  rw [List.all_eq_false]
  refine ⟨k, List.mem_range.2 hk, ?_⟩
  rw [List.getD_eq_getElem?_getD, hl]
  simp [hf]
theorem ordV_hist {h : List TxnT} {R : List (List Int)} (hv : histv h = false) : ordV h R = false := by simp [ordV, hv]
theorem ordV_len {h : List TxnT} {R : List (List Int)} (hl : R.length ≠ 3) : ordV h R = false := by simp [ordV, hl]

set_option maxHeartbeats 4000000 in
theorem specOrdersValid_c (h : List TxnT) (R : List (List Int)) (S S' : Nat → Prop) (A B : Option Addr) (c d : Nat) (w : World) (hx : Txns S w A h) (hsm : Small h) (hr : Rows2 S' w B R) (hrs : SmallR R) :
    Calls Tryz.prog 38 #[.slice A h.length c, .slice B R.length d] w fun e w' => e = .returned (.bool (ordV h R)) ∧ Ext w w' := by
  have CV := Lib.hid (fun w hx => specHistoryValid_c h S A c w hx hsm)
  have CI := Lib.hid (fun (k : Nat) w hx => specInstalled_c h S A c (k : Int) w hx hsm)
  have HIL := Lib.hid (fun (k : Int) => instd_len h k)
  have HX := Lib.hid hx
  have HR := Lib.hid hr
  have HRS := Lib.hid hrs
  have hl := hrs.len
  clear hx hr hrs
  go_enter Tryz.func38, Tryz.ntmps38
  go_wp2
  go_loopw [5] (fun i wr => ∃ k : Nat, k ≤ 3 ∧ k ≤ R.length ∧ i = .int .i64 k ∧ (∀ (j : Nat) l, j < k → R[j]? = some l → l7v l (instd h ((j : Nat) : Int)) = true) ∧ Ext w wr) (fun i _ => 3 - (intOf i).toNat)
  case atStart => exact ⟨0, by omega, Nat.zero_le _, rfl, (fun j l h => by omega), Below.refl _ _⟩
  case round =>
    obtain ⟨k, hk3, hkl, rfl, hall, hE⟩ := hrel
    have HA := Lib.hid hall
    have HE := Lib.hid hE
    clear hall hE
    by_cases hlt : k < 3 ∧ k < R.length
    · obtain ⟨h3, hlt⟩ := hlt
      obtain ⟨l, A', cap, b, off, hxk, rfl, _, hb0, hI, c0⟩ := (HR.out.ext HE.out).at_ hlt
      have hll := HRS.out.row hxk
      have HXK := Lib.hid hxk
      have HI := Lib.hid hI
      have hnd := instd_nodup h ((k : Nat) : Int)
      have hki : (k : Int) ≤ 2 := by omega
      have hki2 : decide ((k : Int) ≤ 2) = true := decide_eq_true hki
      have hkl2 : decide (k < R.length) = true := decide_eq_true hlt
      have hkl3 : (k : Int) < R.length := by omega
      have hIL := HIL.out (k : Int)
      clear hxk hI hnd
      go_wp2
      refine wp_region_held_drew (S := fun W => W.cell? ⟨b, off + k, none⟩ = some (.slice A' l.length cap)) (by kernel_rfl) c0 (fun hHeld => ?_)
      refine wpAnyH_take (i := 0) (oi := ?_) (v := ?_) ?_ ?_ ?_ ?_ ?_ ?_ hHeld ?_
      rotate_left 2
      · (simp only [List.getElem?_toArray, List.getElem?_cons_succ, List.getElem?_cons_zero]; rfl)
      · kernel_rfl
      · kernel_rfl
      · kernel_rfl
      · exact fun _ _ _ h => h
      · refine Or.inl ⟨by rfl, ?_⟩
        (intro w hSw; (try dsimp only at hSw); (try obtain ⟨qS0, qS1⟩ := hSw); go_simp; try (with_reducible rfl))
      try simp only [Act.put, List.setIfInBounds_toArray, List.set_cons_zero, List.set_cons_succ]
      refine wpAnyH_take (i := 1) (oi := ?_) (v := ?_) ?_ ?_ ?_ ?_ ?_ ?_ hHeld ?_
      rotate_left 2
      · (simp only [List.getElem?_toArray, List.getElem?_cons_succ, List.getElem?_cons_zero]; rfl)
      · kernel_rfl
      · kernel_rfl
      · kernel_rfl
      · exact fun _ _ _ h => h
      · refine Or.inl ⟨by rfl, ?_⟩
        (intro w hSw; (try dsimp only at hSw); (try obtain ⟨qS0, qS1⟩ := hSw); go_simp; try (with_reducible rfl))
      try simp only [Act.put, List.setIfInBounds_toArray, List.set_cons_zero, List.set_cons_succ]
      refine wpAnyH_take (i := 2) (oi := ?_) (v := ?_) ?_ ?_ ?_ ?_ ?_ ?_ hHeld ?_
      rotate_left 2
      · (simp only [List.getElem?_toArray, List.getElem?_cons_succ, List.getElem?_cons_zero]; rfl)
      · kernel_rfl
      · kernel_rfl
      · kernel_rfl
      · exact fun _ _ _ h => h
      · refine Or.inl ⟨by rfl, ?_⟩
        (intro w hSw; (try dsimp only at hSw); (try obtain ⟨qS0, qS1⟩ := hSw); go_simp; try (with_reducible rfl))
      try simp only [Act.put, List.setIfInBounds_toArray, List.set_cons_zero, List.set_cons_succ]
      refine wpAnyH_take (i := 3) (oi := ?_) (v := ?_) ?_ ?_ ?_ ?_ ?_ ?_ hHeld ?_
      rotate_left 2
      · (simp only [List.getElem?_toArray, List.getElem?_cons_succ, List.getElem?_cons_zero]; rfl)
      · kernel_rfl
      · kernel_rfl
      · kernel_rfl
      · exact fun _ _ _ h => h
      · refine Or.inl ⟨by rfl, ?_⟩
        (intro w hSw; (try dsimp only at hSw); (try obtain ⟨qS0, qS1⟩ := hSw); go_simp; try (with_reducible rfl))
      try simp only [Act.put, List.setIfInBounds_toArray, List.set_cons_zero, List.set_cons_succ]
      refine wpAnyH_take (i := 4) (oi := ?_) (v := ?_) ?_ ?_ ?_ ?_ ?_ ?_ hHeld ?_
      rotate_left 2
      · (simp only [List.getElem?_toArray, List.getElem?_cons_succ, List.getElem?_cons_zero]; rfl)
      · kernel_rfl
      · kernel_rfl
      · kernel_rfl
      · exact fun _ _ _ h => h
      · refine Or.inl ⟨by rfl, ?_⟩
        (intro w hSw; (try dsimp only at hSw); (try obtain ⟨qS0, qS1⟩ := hSw); go_simp; try (with_reducible rfl))
      try simp only [Act.put, List.setIfInBounds_toArray, List.set_cons_zero, List.set_cons_succ]
      refine wpAnyH_take (i := 5) (oi := ?_) (v := ?_) ?_ ?_ ?_ ?_ ?_ ?_ hHeld ?_
      rotate_left 2
      · (simp only [List.getElem?_toArray, List.getElem?_cons_succ, List.getElem?_cons_zero]; rfl)
      · kernel_rfl
      · kernel_rfl
      · kernel_rfl
      · exact fun _ _ _ h => h
      · refine Or.inl ⟨by rfl, ?_⟩
        (intro w hSw; (try dsimp only at hSw); (try obtain ⟨qS0, qS1⟩ := hSw); go_simp; try (with_reducible rfl))
      try simp only [Act.put, List.setIfInBounds_toArray, List.set_cons_zero, List.set_cons_succ]
      refine wpAnyH_ready (rs := [6]) (by kernel_rfl) (by simp) ?_
      refine AllReadyH.cons rfl (fun K hK => ?_) AllReadyH.nil
      go_simp
      go_at_call 19
      refine (CI.out k _ (HX.out.ext (HE.out.tr (by (repeat' (first | (with_reducible exact Below.refl _ _) | (with_reducible refine Below.mono (by assumption) ?_) | (with_reducible refine Below.trans ?_ (Below.mono (by assumption) ?_)) | (with_reducible refine Below.alloc ?_ ?_ _) | (with_reducible refine Below.drew ?_) | (with_reducible refine below_drewN ?_ _) | (with_reducible refine Below.setCell ?_ ?_ _) | (simp only [World.size_alloc, World.size_setCell, World.size_drew, size_drewN]; omega) | omega)))))).mono ?_
      rintro e w5 ⟨A5, c5, rfl, hI5, _, hb⟩
      have hb5 : Ext wr w5 := by (repeat' (first | (with_reducible exact Below.refl _ _) | (with_reducible refine Below.mono (by assumption) ?_) | (with_reducible refine Below.trans ?_ (Below.mono (by assumption) ?_)) | (with_reducible refine Below.alloc ?_ ?_ _) | (with_reducible refine Below.drew ?_) | (with_reducible refine below_drewN ?_ _) | (with_reducible refine Below.setCell ?_ ?_ _) | (simp only [World.size_alloc, World.size_setCell, World.size_drew, size_drewN]; omega) | omega))
      have HB5 := Lib.hid hb5
      have HI5 := Lib.hid hI5
      clear hI5 hb
      go_wp2_with (fail)
      clear hHeld
      refine hK.out _ _ (hb5.keep hb0 c0) (fun hHeld => ?_)
      clear hK K
      try simp only [Act.put, List.setIfInBounds_toArray, List.set_cons_zero, List.set_cons_succ]
      refine wpAnyH_ready (rs := [7]) (by kernel_rfl) (by simp) ?_
      refine AllReadyH.cons rfl (fun K hK => ?_) AllReadyH.nil
      go_simp
      go_at_call 59
      refine (l7Same_c l (instd h (k : Int)) _ _ _ _ _ _ _ (HI.out.ext HB5.out) HI5.out hll (by omega)).mono ?_
      rintro e w6 ⟨rfl, hb6⟩
      have hb56 : Ext wr w6 := HB5.out.tr hb6
      have HB6 := Lib.hid (HE.out.tr hb56)
      go_wp2_with (fail)
      clear hHeld
      refine hK.out _ _ (hb56.keep hb0 c0) (fun hHeld => ?_)
      clear hK K hb6 hb56 hb5 HB5 HI5
      try simp only [Act.put, List.setIfInBounds_toArray, List.set_cons_zero, List.set_cons_succ]
      refine wpAnyH_take (i := 8) (oi := ?_) (v := ?_) ?_ ?_ ?_ ?_ ?_ ?_ hHeld ?_
      rotate_left 2
      · (simp only [List.getElem?_toArray, List.getElem?_cons_succ, List.getElem?_cons_zero]; rfl)
      · kernel_rfl
      · kernel_rfl
      · kernel_rfl
      · exact fun _ _ _ h => h
      · refine Or.inl ⟨by rfl, ?_⟩
        (intro w hSw; (try dsimp only at hSw); (try obtain ⟨qS0, qS1⟩ := hSw); go_simp; try (with_reducible rfl))
      try simp only [Act.put, List.setIfInBounds_toArray, List.set_cons_zero, List.set_cons_succ]
      refine wpAnyH_done (by kernel_rfl) ?_ _
      cases hs : l7v l (instd h (k : Int)) with
      | true =>
        have hst : ∀ (j : Nat) l, j < k + 1 → R[j]? = some l → l7v l (instd h ((j : Nat) : Int)) = true := fun j l' hj hl' => by
          by_cases e : j = k
          · subst e
            rw [HXK.out] at hl'
            cases hl'
            exact hs
          · exact HA.out j l' (by omega) hl'
        have HSt := Lib.hid hst
        clear hst hs
        go_wp2
        exact ⟨⟨k + 1, by omega, by omega, by go_num, HSt.out, HB6.out⟩, by simp [intOf]; omega⟩
      | false =>
        have HF := Lib.hid (ordV_false h3 HXK.out hs)
        clear hs
        go_wp2
        go_ret
        exact ⟨ret_bool HF.out.symm, HB6.out⟩
    · cases hv : histv h with
      | false =>
        have HF := Lib.hid (ordV_hist (R := R) hv)
        have CV2 := CV.out
        rw [hv] at CV2
        have CV2 := Lib.hid CV2
        have hd : decide ((k : Int) ≤ 2) = false ∨ (decide ((k : Int) ≤ 2) = true ∧ decide (k < R.length) = false) := by
          by_cases h3 : k < 3
          · right
            exact ⟨decide_eq_true (by omega), decide_eq_false (fun h => hlt ⟨h3, h⟩)⟩
          · left
            exact decide_eq_false (by omega)
        clear hv hlt CV
        rcases hd with hd | ⟨hd, hd2⟩
        · have hd3 : ((k : Int) ≤ 2) = False := eq_false (of_decide_eq_false hd)
          go_wp2_with (fail)
          go_at_call 18
          refine (CV2.out _ (HX.out.ext HE.out)).mono ?_
          rintro e w5 ⟨rfl, hb⟩
          obtain ⟨hc, hf, hz, hs⟩ := bcell hb
          (try simp only [World.size_alloc, World.size_setCell, World.size_drew, size_drewN] at hs); (first | have l0 := Nat.lt_of_lt_of_le l0 (show _ ≤ w5.heap.size by omega) | have l0 : w.heap.size < w5.heap.size := (by omega) | skip); (try have l0e := Nat.le_of_lt l0); (try have l0f := Nat.le_add_right_of_le (k := 1) l0e); (try have l1 := Nat.lt_of_lt_of_le l1 (show _ ≤ w5.heap.size by omega)); (try have l1e := Nat.le_of_lt l1); (try have l1f := Nat.le_add_right_of_le (k := 1) l1e); (try have l2 := Nat.lt_of_lt_of_le l2 (show _ ≤ w5.heap.size by omega)); (try have l2e := Nat.le_of_lt l2); (try have l2f := Nat.le_add_right_of_le (k := 1) l2e); (try have l3 := Nat.lt_of_lt_of_le l3 (show _ ≤ w5.heap.size by omega)); (try have l3e := Nat.le_of_lt l3); (try have l3f := Nat.le_add_right_of_le (k := 1) l3e)
          go_wp2
          go_ret
          exact ⟨ret_bool HF.out.symm, HE.out.tr hb⟩
        · skip
          go_wp2_with (fail)
          go_at_call 18
          refine (CV2.out _ (HX.out.ext HE.out)).mono ?_
          rintro e w5 ⟨rfl, hb⟩
          obtain ⟨hc, hf, hz, hs⟩ := bcell hb
          (try simp only [World.size_alloc, World.size_setCell, World.size_drew, size_drewN] at hs); (first | have l0 := Nat.lt_of_lt_of_le l0 (show _ ≤ w5.heap.size by omega) | have l0 : w.heap.size < w5.heap.size := (by omega) | skip); (try have l0e := Nat.le_of_lt l0); (try have l0f := Nat.le_add_right_of_le (k := 1) l0e); (try have l1 := Nat.lt_of_lt_of_le l1 (show _ ≤ w5.heap.size by omega)); (try have l1e := Nat.le_of_lt l1); (try have l1f := Nat.le_add_right_of_le (k := 1) l1e); (try have l2 := Nat.lt_of_lt_of_le l2 (show _ ≤ w5.heap.size by omega)); (try have l2e := Nat.le_of_lt l2); (try have l2f := Nat.le_add_right_of_le (k := 1) l2e); (try have l3 := Nat.lt_of_lt_of_le l3 (show _ ≤ w5.heap.size by omega)); (try have l3e := Nat.le_of_lt l3); (try have l3f := Nat.le_add_right_of_le (k := 1) l3e)
          go_wp2
          go_ret
          exact ⟨ret_bool HF.out.symm, HE.out.tr hb⟩
      | true =>
        have CV2 := CV.out
        rw [hv] at CV2
        have CV2 := Lib.hid CV2
        have HVv := Lib.hid hv
        clear hv CV
        by_cases hl3 : R.length = 3
        · have hk : k = 3 := by
            rcases Nat.lt_or_ge k 3 with h | h
            · exact absurd ⟨h, by omega⟩ hlt
            · omega
          subst hk
          have HF := Lib.hid (ordV_true HVv.out hl3 (fun k l hk hl => HA.out k l hk hl))
          have hl3b : ((R.length : Int) == 3) = true := by simp; omega
          have HL3 := Lib.hid hl3
          clear hlt hl3
          go_wp2_with (fail)
          go_at_call 18
          refine (CV2.out _ (HX.out.ext HE.out)).mono ?_
          rintro e w5 ⟨rfl, hb⟩
          obtain ⟨hc, hf, hz, hs⟩ := bcell hb
          (try simp only [World.size_alloc, World.size_setCell, World.size_drew, size_drewN] at hs); (first | have l0 := Nat.lt_of_lt_of_le l0 (show _ ≤ w5.heap.size by omega) | have l0 : w.heap.size < w5.heap.size := (by omega) | skip); (try have l0e := Nat.le_of_lt l0); (try have l0f := Nat.le_add_right_of_le (k := 1) l0e); (try have l1 := Nat.lt_of_lt_of_le l1 (show _ ≤ w5.heap.size by omega)); (try have l1e := Nat.le_of_lt l1); (try have l1f := Nat.le_add_right_of_le (k := 1) l1e); (try have l2 := Nat.lt_of_lt_of_le l2 (show _ ≤ w5.heap.size by omega)); (try have l2e := Nat.le_of_lt l2); (try have l2f := Nat.le_add_right_of_le (k := 1) l2e); (try have l3 := Nat.lt_of_lt_of_le l3 (show _ ≤ w5.heap.size by omega)); (try have l3e := Nat.le_of_lt l3); (try have l3f := Nat.le_add_right_of_le (k := 1) l3e)
          go_wp2
          go_ret
          exact ⟨ret_bool HF.out.symm, HE.out.tr hb⟩
        · have HF := Lib.hid (ordV_len (h := h) hl3)
          have hl3b : ((R.length : Int) == 3) = false := by simp; omega
          have hd : decide ((k : Int) ≤ 2) = false ∨ (decide ((k : Int) ≤ 2) = true ∧ decide (k < R.length) = false) := by
            by_cases h3 : k < 3
            · right
              exact ⟨decide_eq_true (by omega), decide_eq_false (fun h => hlt ⟨h3, h⟩)⟩
            · left
              exact decide_eq_false (by omega)
          clear hlt hl3
          rcases hd with hd | ⟨hd, hd2⟩
          · have hd3 : ((k : Int) ≤ 2) = False := eq_false (of_decide_eq_false hd)
            go_wp2_with (fail)
            go_at_call 18
            refine (CV2.out _ (HX.out.ext HE.out)).mono ?_
            rintro e w5 ⟨rfl, hb⟩
            obtain ⟨hc, hf, hz, hs⟩ := bcell hb
            (try simp only [World.size_alloc, World.size_setCell, World.size_drew, size_drewN] at hs); (first | have l0 := Nat.lt_of_lt_of_le l0 (show _ ≤ w5.heap.size by omega) | have l0 : w.heap.size < w5.heap.size := (by omega) | skip); (try have l0e := Nat.le_of_lt l0); (try have l0f := Nat.le_add_right_of_le (k := 1) l0e); (try have l1 := Nat.lt_of_lt_of_le l1 (show _ ≤ w5.heap.size by omega)); (try have l1e := Nat.le_of_lt l1); (try have l1f := Nat.le_add_right_of_le (k := 1) l1e); (try have l2 := Nat.lt_of_lt_of_le l2 (show _ ≤ w5.heap.size by omega)); (try have l2e := Nat.le_of_lt l2); (try have l2f := Nat.le_add_right_of_le (k := 1) l2e); (try have l3 := Nat.lt_of_lt_of_le l3 (show _ ≤ w5.heap.size by omega)); (try have l3e := Nat.le_of_lt l3); (try have l3f := Nat.le_add_right_of_le (k := 1) l3e)
            go_wp2
            go_ret
            exact ⟨ret_bool HF.out.symm, HE.out.tr hb⟩
          · skip
            go_wp2_with (fail)
            go_at_call 18
            refine (CV2.out _ (HX.out.ext HE.out)).mono ?_
            rintro e w5 ⟨rfl, hb⟩
            obtain ⟨hc, hf, hz, hs⟩ := bcell hb
            (try simp only [World.size_alloc, World.size_setCell, World.size_drew, size_drewN] at hs); (first | have l0 := Nat.lt_of_lt_of_le l0 (show _ ≤ w5.heap.size by omega) | have l0 : w.heap.size < w5.heap.size := (by omega) | skip); (try have l0e := Nat.le_of_lt l0); (try have l0f := Nat.le_add_right_of_le (k := 1) l0e); (try have l1 := Nat.lt_of_lt_of_le l1 (show _ ≤ w5.heap.size by omega)); (try have l1e := Nat.le_of_lt l1); (try have l1f := Nat.le_add_right_of_le (k := 1) l1e); (try have l2 := Nat.lt_of_lt_of_le l2 (show _ ≤ w5.heap.size by omega)); (try have l2e := Nat.le_of_lt l2); (try have l2f := Nat.le_add_right_of_le (k := 1) l2e); (try have l3 := Nat.lt_of_lt_of_le l3 (show _ ≤ w5.heap.size by omega)); (try have l3e := Nat.le_of_lt l3); (try have l3f := Nat.le_add_right_of_le (k := 1) l3e)
            go_wp2
            go_ret
            exact ⟨ret_bool HF.out.symm, HE.out.tr hb⟩
set_option maxHeartbeats 4000000 in
theorem implOrdersValid_c (h : List TxnT) (R : List (List Int)) (S S' : Nat → Prop) (A B : Option Addr) (c d : Nat) (w : World) (hx : Txns S w A h) (hsm : Small h) (hr : Rows2 S' w B R) (hrs : SmallR R) :
    Calls Tryz.prog 29 #[.slice A h.length c, .slice B R.length d] w fun e w' => e = .returned (.bool (ordV h R)) ∧ Ext w w' := by
  have CV := Lib.hid (fun w hx => implHistoryValid_c h S A c w hx hsm)
  have CI := Lib.hid (fun (k : Nat) w hx => implInstalled_c h S A c (k : Int) w hx hsm)
  have HIL := Lib.hid (fun (k : Int) => instd_len h k)
  have HX := Lib.hid hx
  have HR := Lib.hid hr
  have HRS := Lib.hid hrs
  have hl := hrs.len
  clear hx hr hrs
  cases hv : histv h with
  | false =>
    have HF := Lib.hid (ordV_hist (R := R) hv)
    have CV2 := CV.out
    rw [hv] at CV2
    have CV2 := Lib.hid CV2
    clear hv CV
    go_enter Tryz.func29, Tryz.ntmps29
    go_wp2_with (fail)
    go_at_call 43
    refine (CV2.out _ (HX.out.ext (by (repeat' (first | (with_reducible exact Below.refl _ _) | (with_reducible refine Below.mono (by assumption) ?_) | (with_reducible refine Below.trans ?_ (Below.mono (by assumption) ?_)) | (with_reducible refine Below.alloc ?_ ?_ _) | (with_reducible refine Below.drew ?_) | (with_reducible refine below_drewN ?_ _) | (with_reducible refine Below.setCell ?_ ?_ _) | (simp only [World.size_alloc, World.size_setCell, World.size_drew, size_drewN]; omega) | omega))))).mono ?_
    rintro e w1 ⟨rfl, hb⟩
    obtain ⟨hc, hf, hz, hs⟩ := bcell hb
    (try simp only [World.size_alloc, World.size_setCell, World.size_drew, size_drewN] at hs); (first | have l0 := Nat.lt_of_lt_of_le l0 (show _ ≤ w1.heap.size by omega) | have l0 : w.heap.size < w1.heap.size := (by omega) | skip); (try have l0e := Nat.le_of_lt l0); (try have l0f := Nat.le_add_right_of_le (k := 1) l0e); (try have l1 := Nat.lt_of_lt_of_le l1 (show _ ≤ w1.heap.size by omega)); (try have l1e := Nat.le_of_lt l1); (try have l1f := Nat.le_add_right_of_le (k := 1) l1e); (try have l2 := Nat.lt_of_lt_of_le l2 (show _ ≤ w1.heap.size by omega)); (try have l2e := Nat.le_of_lt l2); (try have l2f := Nat.le_add_right_of_le (k := 1) l2e); (try have l3 := Nat.lt_of_lt_of_le l3 (show _ ≤ w1.heap.size by omega)); (try have l3e := Nat.le_of_lt l3); (try have l3f := Nat.le_add_right_of_le (k := 1) l3e)
    go_wp2
    go_ret
    exact ⟨ret_bool HF.out.symm, by (repeat' (first | (with_reducible exact Below.refl _ _) | (with_reducible refine Below.mono (by assumption) ?_) | (with_reducible refine Below.trans ?_ (Below.mono (by assumption) ?_)) | (with_reducible refine Below.alloc ?_ ?_ _) | (with_reducible refine Below.drew ?_) | (with_reducible refine below_drewN ?_ _) | (with_reducible refine Below.setCell ?_ ?_ _) | (simp only [World.size_alloc, World.size_setCell, World.size_drew, size_drewN]; omega) | omega))⟩
  | true =>
    have CV2 := CV.out
    rw [hv] at CV2
    have CV2 := Lib.hid CV2
    have HVv := Lib.hid hv
    clear hv CV
    by_cases hl3 : R.length = 3
    rotate_left
    · have HF := Lib.hid (ordV_len (h := h) hl3)
      have hl3b : ((R.length : Int) != 3) = true := by simp; omega
      clear hl3
      go_enter Tryz.func29, Tryz.ntmps29
      go_wp2_with (fail)
      go_at_call 43
      refine (CV2.out _ (HX.out.ext (by (repeat' (first | (with_reducible exact Below.refl _ _) | (with_reducible refine Below.mono (by assumption) ?_) | (with_reducible refine Below.trans ?_ (Below.mono (by assumption) ?_)) | (with_reducible refine Below.alloc ?_ ?_ _) | (with_reducible refine Below.drew ?_) | (with_reducible refine below_drewN ?_ _) | (with_reducible refine Below.setCell ?_ ?_ _) | (simp only [World.size_alloc, World.size_setCell, World.size_drew, size_drewN]; omega) | omega))))).mono ?_
      rintro e w1 ⟨rfl, hb⟩
      obtain ⟨hc, hf, hz, hs⟩ := bcell hb
      (try simp only [World.size_alloc, World.size_setCell, World.size_drew, size_drewN] at hs); (first | have l0 := Nat.lt_of_lt_of_le l0 (show _ ≤ w1.heap.size by omega) | have l0 : w.heap.size < w1.heap.size := (by omega) | skip); (try have l0e := Nat.le_of_lt l0); (try have l0f := Nat.le_add_right_of_le (k := 1) l0e); (try have l1 := Nat.lt_of_lt_of_le l1 (show _ ≤ w1.heap.size by omega)); (try have l1e := Nat.le_of_lt l1); (try have l1f := Nat.le_add_right_of_le (k := 1) l1e); (try have l2 := Nat.lt_of_lt_of_le l2 (show _ ≤ w1.heap.size by omega)); (try have l2e := Nat.le_of_lt l2); (try have l2f := Nat.le_add_right_of_le (k := 1) l2e); (try have l3 := Nat.lt_of_lt_of_le l3 (show _ ≤ w1.heap.size by omega)); (try have l3e := Nat.le_of_lt l3); (try have l3f := Nat.le_add_right_of_le (k := 1) l3e)
      go_wp2
      go_ret
      exact ⟨ret_bool HF.out.symm, by (repeat' (first | (with_reducible exact Below.refl _ _) | (with_reducible refine Below.mono (by assumption) ?_) | (with_reducible refine Below.trans ?_ (Below.mono (by assumption) ?_)) | (with_reducible refine Below.alloc ?_ ?_ _) | (with_reducible refine Below.drew ?_) | (with_reducible refine below_drewN ?_ _) | (with_reducible refine Below.setCell ?_ ?_ _) | (simp only [World.size_alloc, World.size_setCell, World.size_drew, size_drewN]; omega) | omega))⟩
    · have hl3b : ((R.length : Int) != 3) = false := by simp; omega
      have HL3 := Lib.hid hl3
      clear hl3
      go_enter Tryz.func29, Tryz.ntmps29
      go_wp2_with (fail)
      go_at_call 43
      refine (CV2.out _ (HX.out.ext (by (repeat' (first | (with_reducible exact Below.refl _ _) | (with_reducible refine Below.mono (by assumption) ?_) | (with_reducible refine Below.trans ?_ (Below.mono (by assumption) ?_)) | (with_reducible refine Below.alloc ?_ ?_ _) | (with_reducible refine Below.drew ?_) | (with_reducible refine below_drewN ?_ _) | (with_reducible refine Below.setCell ?_ ?_ _) | (simp only [World.size_alloc, World.size_setCell, World.size_drew, size_drewN]; omega) | omega))))).mono ?_
      rintro e w1 ⟨rfl, hb⟩
      obtain ⟨hc, hf, hz, hs⟩ := bcell hb
      (try simp only [World.size_alloc, World.size_setCell, World.size_drew, size_drewN] at hs); (first | have l0 := Nat.lt_of_lt_of_le l0 (show _ ≤ w1.heap.size by omega) | have l0 : w.heap.size < w1.heap.size := (by omega) | skip); (try have l0e := Nat.le_of_lt l0); (try have l0f := Nat.le_add_right_of_le (k := 1) l0e); (try have l1 := Nat.lt_of_lt_of_le l1 (show _ ≤ w1.heap.size by omega)); (try have l1e := Nat.le_of_lt l1); (try have l1f := Nat.le_add_right_of_le (k := 1) l1e); (try have l2 := Nat.lt_of_lt_of_le l2 (show _ ≤ w1.heap.size by omega)); (try have l2e := Nat.le_of_lt l2); (try have l2f := Nat.le_add_right_of_le (k := 1) l2e); (try have l3 := Nat.lt_of_lt_of_le l3 (show _ ≤ w1.heap.size by omega)); (try have l3e := Nat.le_of_lt l3); (try have l3f := Nat.le_add_right_of_le (k := 1) l3e)
      have HE1 := Lib.hid (show Ext w w1 by (repeat' (first | (with_reducible exact Below.refl _ _) | (with_reducible refine Below.mono (by assumption) ?_) | (with_reducible refine Below.trans ?_ (Below.mono (by assumption) ?_)) | (with_reducible refine Below.alloc ?_ ?_ _) | (with_reducible refine Below.drew ?_) | (with_reducible refine below_drewN ?_ _) | (with_reducible refine Below.setCell ?_ ?_ _) | (simp only [World.size_alloc, World.size_setCell, World.size_drew, size_drewN]; omega) | omega)))
      clear hc hf hz hb
      go_wp2
      go_loopw [19] (fun i wr => ∃ k : Nat, k ≤ R.length ∧ i = .int .i64 k ∧ (∀ (j : Nat) l, j < k → R[j]? = some l → l7v l (instd h ((j : Nat) : Int)) = true) ∧ Ext w wr) (fun i _ => R.length - (intOf i).toNat)
      case atStart => exact ⟨0, Nat.zero_le _, rfl, (fun j l h => by omega), HE1.out⟩
      case round =>
        obtain ⟨k, hkl, rfl, hall, hE⟩ := hrel
        have HA := Lib.hid hall
        have HE := Lib.hid hE
        clear hall hE
        by_cases hlt : k < R.length
        · have h3 : k < 3 := by have := HL3.out; omega
          obtain ⟨l, A', cap, b, off, hxk, rfl, _, hb0, hI, c0⟩ := (HR.out.ext HE.out).at_ hlt
          have hll := HRS.out.row hxk
          have HXK := Lib.hid hxk
          have HI := Lib.hid hI
          have hkl3 : (k : Int) < R.length := by omega
          have hIL := HIL.out (k : Int)
          clear hxk hI
          go_wp2_with (fail)
          go_at_call 47
          refine (values_c _ _ _ _).mono ?_
          rintro e w2 ⟨rfl, rfl⟩
          have hb2 : Ext wr (wr.alloc (.cells #[.slice A' l.length cap] 45)) := by (repeat' (first | (with_reducible exact Below.refl _ _) | (with_reducible refine Below.mono (by assumption) ?_) | (with_reducible refine Below.trans ?_ (Below.mono (by assumption) ?_)) | (with_reducible refine Below.alloc ?_ ?_ _) | (with_reducible refine Below.drew ?_) | (with_reducible refine below_drewN ?_ _) | (with_reducible refine Below.setCell ?_ ?_ _) | (simp only [World.size_alloc, World.size_setCell, World.size_drew, size_drewN]; omega) | omega))
          have HBx := Lib.hid (Boxd.made (c := cap) HI.out)
          have HE2 := Lib.hid hb2
          clear hb2
          go_wp2_with (fail)
          go_at_call 46
          refine (sorted_c wr.heap.size l hll _ HBx.out).mono ?_
          rintro e w3 ⟨v3, rfl, ho3, hb3⟩
          have HO3 := Lib.hid ho3
          have HE3 := Lib.hid (HE2.out.tr hb3)
          clear ho3 hb3 HBx HE2
          go_wp2_with (fail)
          go_at_call 44
          refine (CI.out k _ (HX.out.ext (HE.out.tr HE3.out))).mono ?_
          rintro e w4 ⟨A5, c5, rfl, hI5, _, hb4⟩
          have HO4 := Lib.hid (HO3.out.ext hb4)
          have HE4 := Lib.hid (HE3.out.tr hb4)
          have HI5 := Lib.hid hI5
          clear hI5 hb4 HO3 HE3
          go_wp2_with (fail)
          go_at_call 47
          refine (values_c _ _ _ _).mono ?_
          rintro e w5 ⟨rfl, rfl⟩
          have hb5 : Ext w4 (w4.alloc (.cells #[.slice A5 (instd h (k : Int)).length c5] 45)) := by (repeat' (first | (with_reducible exact Below.refl _ _) | (with_reducible refine Below.mono (by assumption) ?_) | (with_reducible refine Below.trans ?_ (Below.mono (by assumption) ?_)) | (with_reducible refine Below.alloc ?_ ?_ _) | (with_reducible refine Below.drew ?_) | (with_reducible refine below_drewN ?_ _) | (with_reducible refine Below.setCell ?_ ?_ _) | (simp only [World.size_alloc, World.size_setCell, World.size_drew, size_drewN]; omega) | omega))
          have HBx := Lib.hid (Boxd.made (c := c5) HI5.out)
          have HO5 := Lib.hid (HO4.out.ext hb5)
          have HE5 := Lib.hid (HE4.out.tr hb5)
          clear hb5 HO4 HE4 HI5
          go_wp2_with (fail)
          go_at_call 46
          refine (sorted_c w4.heap.size (instd h (k : Int)) (by omega) _ HBx.out).mono ?_
          rintro e w6 ⟨v6, rfl, ho6, hb6⟩
          have HO6 := Lib.hid ho6
          have HO7 := Lib.hid (HO5.out.ext hb6)
          have HE6 := Lib.hid (HE5.out.tr hb6)
          clear ho6 hb6 HBx HE5 HO5
          obtain ⟨A8, c8, rfl, hi8, _⟩ := HO7.out.form
          obtain ⟨A9, c9, rfl, hi9, _⟩ := HO6.out.form
          have HI8 := Lib.hid hi8
          have HI9 := Lib.hid hi9
          have hs8 := srt_len l
          have hs9 := srt_len (instd h (k : Int))
          have hle8 : (srt l).length ≤ 1048576 := by omega
          have hle9 : (srt (instd h (k : Int))).length ≤ 1048576 := by omega
          have HEq := Lib.hid (l7v_srt (a := l) (instd_nodup h (k : Int)))
          clear hi8 hi9 hs8 hs9 HO6 HO7
          go_wp2_with (fail)
          go_at_call 48
          refine (equalInt_c (srt l) (srt (instd h (k : Int))) _ _ _ _ _ _ _ HI8.out HI9.out hle8 hle9).mono ?_
          rintro e w7 ⟨rfl, hb7⟩
          have HE7 := Lib.hid (HE.out.tr (HE6.out.tr hb7))
          rw [← HEq.out]
          clear hb7 HI8 HI9 HE6
          cases hs : l7v l (instd h (k : Int)) with
          | true =>
            have hst : ∀ (j : Nat) l, j < k + 1 → R[j]? = some l → l7v l (instd h ((j : Nat) : Int)) = true := fun j l' hj hl' => by
              by_cases e : j = k
              · subst e
                rw [HXK.out] at hl'
                cases hl'
                exact hs
              · exact HA.out j l' (by omega) hl'
            have HSt := Lib.hid hst
            clear hst hs
            go_wp2
            exact ⟨⟨k + 1, by omega, by go_num, HSt.out, HE7.out⟩, by simp [intOf]; omega⟩
          | false =>
            have HF := Lib.hid (ordV_false h3 HXK.out hs)
            clear hs
            go_wp2
            go_ret
            exact ⟨ret_bool HF.out.symm, HE7.out⟩
        · obtain rfl : k = R.length := by omega
          have HF := Lib.hid (ordV_true HVv.out HL3.out (fun k l hk hl => HA.out k l (by have := HL3.out; omega) hl))
          go_wp2
          go_ret
          exact ⟨ret_bool HF.out.symm, HE.out⟩
end Go.Proofs.YtmbdacfgmiielaaGreat

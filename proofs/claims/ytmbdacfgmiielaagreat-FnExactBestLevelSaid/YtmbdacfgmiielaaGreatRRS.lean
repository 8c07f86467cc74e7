/-
  Contract of the reference's ReadsRight.
-/
import Derived.Test.YtmbdacfgmiielaaGreatGBadD24
import Derived.Test.YtmbdacfgmiielaaGreatGBadK25
import Derived.Deep.Draws
namespace Go.Proofs.YtmbdacfgmiielaaGreat
set_option linter.unusedSimpArgs false
set_option linter.unusedVariables false
set_option maxRecDepth 100000
open Go.RowKit

theorem specFR_c (t : TxnT) (S : Nat → Prop) (A : Option Addr) (c : Nat) (w : World) (hx : Ops S w A t.ops) (hn : t.ops.length ≤ 1048576) :
    Calls Tryz.prog 61 #[.agg #[.int .i64 t.sess, .slice A t.ops.length c, .bool t.done]] w (Fresh (frL t) w) := by
  unfold frL
  cases hv : txnv t with
  | false => rw [if_neg (by simp)]; exact specFirstReads_bad t S A c w hx hn hv
  | true => rw [if_pos rfl]; exact specFirstReads_ok t S A c w hx hn hv
theorem frL_len (t : TxnT) : (frL t).length ≤ t.ops.length := by
  unfold frL
  split
  · exact frs_len _ _
  · exact Nat.zero_le _
set_option maxHeartbeats 4000000 in
theorem specReadsRight_c (h : List TxnT) (S : Nat → Prop) (A : Option Addr) (c : Nat) (w : World) (hx : Txns S w A h) (hsm : Small h) :
    Calls Tryz.prog 41 #[.slice A h.length c] w fun e w' => e = .returned (.bool (rrI h)) ∧ Ext w w' := by
  have C := fun w hx => specHistoryValid_c h S A c w hx hsm
  have CW := fun key val w hx => l5Writer_c h S A c key val w hx hsm
  have CB := fun q w hx => specBadReads_c h S A c q w hx hsm
  have hbs := fun q => bads_small hsm q
  have hno := noBad_of (h := h)
  have hnt := fun q => noBad_not (h := h) (q := q)
  generalize hBD : bads h = BD at CB hbs hno hnt
  have hrs := fun hv hb => rr_spec (h := h) hv hb
  have hrn := fun hb k t => rr_spec_not (h := h) hb (k := k) (t := t)
  have hrv : histv h = false → rrI h = false := fun hv => by unfold rrI; rw [hv]; rfl
  have hrb := rrI_bad (h := h)
  generalize rrI h = RR at hrs hrn hrv hrb ⊢
  generalize noBad h = NB at hno hnt hrs hrn hrb
  generalize histv h = HV at C hrs hrv
  have hn := hsm.len
  have C := Lib.hid C
  have CW := Lib.hid CW
  have CB := Lib.hid CB
  have HRS := Lib.hid hrs
  have HRN := Lib.hid hrn
  have HRV := Lib.hid hrv
  have HRB := Lib.hid hrb
  have HNO := Lib.hid hno
  have HNT := Lib.hid hnt
  clear hrs hrn hrv hrb hno hnt hBD
  go_enter Tryz.func41, Tryz.ntmps41
  go_wp2
  go_loopw [3] (fun i wr => ∃ q : Nat, 1 ≤ q ∧ q ≤ 5 ∧ i = .int .i64 q ∧ (∀ j : Int, 1 ≤ j → j < q → BD j = []) ∧ Ext w wr) (fun i _ => 5 - (intOf i).toNat)
  case atStart => exact ⟨1, by omega, by omega, rfl, fun j h1 h2 => by omega, by (repeat' (first | (with_reducible exact Below.refl _ _) | (with_reducible refine Below.mono (by assumption) ?_) | (with_reducible refine Below.trans ?_ (Below.mono (by assumption) ?_)) | (with_reducible refine Below.alloc ?_ ?_ _) | (with_reducible refine Below.drew ?_) | (with_reducible refine below_drewN ?_ _) | (with_reducible refine Below.setCell ?_ ?_ _) | (simp only [World.size_alloc, World.size_setCell, World.size_drew, size_drewN]; omega) | omega))⟩
  case round =>
    obtain ⟨q, hq1, hq5, rfl, hall, hE⟩ := hrel
    have HA := Lib.hid hall
    clear hall
    by_cases hlt : q ≤ 4
    · skip
      go_wp2_with (fail)
      go_at_call 68
      refine (CB.out q _ (hx.ext hE)).mono ?_
      rintro e w3 ⟨A3, c3, rfl, hW, hf3, hb⟩
      obtain ⟨hc, hf, hz, hs⟩ := bcell hb
      (try simp only [World.size_alloc, World.size_setCell, World.size_drew, size_drewN] at hs); (first | have l0 := Nat.lt_of_lt_of_le l0 (show _ ≤ w3.heap.size by omega) | have l0 : w.heap.size < w3.heap.size := (by omega) | skip); (try have l0e := Nat.le_of_lt l0); (try have l0f := Nat.le_add_right_of_le (k := 1) l0e); (try have l1 := Nat.lt_of_lt_of_le l1 (show _ ≤ w3.heap.size by omega)); (try have l1e := Nat.le_of_lt l1); (try have l1f := Nat.le_add_right_of_le (k := 1) l1e); (try have l2 := Nat.lt_of_lt_of_le l2 (show _ ≤ w3.heap.size by omega)); (try have l2e := Nat.le_of_lt l2); (try have l2f := Nat.le_add_right_of_le (k := 1) l2e); (try have l3 := Nat.lt_of_lt_of_le l3 (show _ ≤ w3.heap.size by omega)); (try have l3e := Nat.le_of_lt l3); (try have l3f := Nat.le_add_right_of_le (k := 1) l3e)
      have e3 := hE.tr hb
      have hbq := hbs q
      clear hc hf hz hb hW hf3
      by_cases hnil : BD q = []
      · have hl : (BD q).length = 0 := by rw [hnil]; rfl
        have HN := Lib.hid hnil
        clear hnil
        go_wp2
        exact ⟨⟨q + 1, by omega, by omega, by go_num, fun j h1 h2 => by
          rcases Int.lt_or_le j q with h3 | h3
          · exact HA.out j h1 h3
          · obtain rfl : j = q := by omega
            exact HN.out, e3⟩, by simp [intOf]; omega⟩
      · have hl : 0 < (BD q).length := List.length_pos_iff.2 hnil
        have hr : RR = false := HRB.out (HNT.out q (by omega) (by omega) hnil)
        have HR := Lib.hid hr
        clear hnil hr
        go_wp2
        go_ret
        exact ⟨ret_bool (by rw [HR.out]), e3⟩
    · have hq : ((q : Nat) : Int) = 5 := by omega
      rw [hq]
      have hnb : NB = true := HNO.out (fun j h1 h2 => HA.out j h1 (by omega))
      have HNB := Lib.hid hnb
      clear hnb
      go_wp2
      go_loopw [4] (fun i wr => ∃ k : Nat, k ≤ h.length ∧ i = .int .i64 k ∧ (∀ j t, j < k → h[j]? = some t → (t.done && rdB h (j : Nat) (frL t)) = false) ∧ Ext w wr) (fun i _ => h.length - (intOf i).toNat)
      case atStart => exact ⟨0, by omega, rfl, fun j t h1 => by omega, hE⟩
      case round =>
        obtain ⟨k, hk, rfl, hall, hE4⟩ := hrel
        have HA4 := Lib.hid hall
        clear hall
        by_cases hlt4 : k < h.length
        · obtain ⟨s, ops, d, A', cap, b, off, hxk, rfl, _, hb0, hOp, c0, c1, c2⟩ := hx.at_ hlt4
          have hon := hsm.ops hxk
          simp only at hon
          have f0 := hE4.keep hb0 c0
          have f1 := hE4.keep hb0 c1
          have f2 := hE4.keep hb0 c2
          have hfl := frL_len ⟨s, ops, d⟩
          have CF : Hid (∀ w, Ops S w A' ops → Calls Tryz.prog 61 #[.agg #[.int .i64 s, .slice A' ops.length cap, .bool d]] w (Fresh (frL ⟨s, ops, d⟩) w)) := Lib.hid (fun w hx => specFR_c ⟨s, ops, d⟩ S A' cap w hx hon)
          generalize hL : frL ⟨s, ops, d⟩ = L at CF hfl
          have HL := Lib.hid hL
          have HX := Lib.hid hxk
          simp only at hfl
          clear hL hxk
          go_wp2_with (fail)
          go_at_call 61
          refine (CF.out _ (hOp.ext hE4)).mono ?_
          rintro e w5 ⟨A5, c5, rfl, hW, hf5, hb⟩
          obtain ⟨hc, hf, hz, hs⟩ := bcell hb
          (try simp only [World.size_alloc, World.size_setCell, World.size_drew, size_drewN] at hs); (first | have l0 := Nat.lt_of_lt_of_le l0 (show _ ≤ w5.heap.size by omega) | have l0 : w.heap.size < w5.heap.size := (by omega) | skip); (try have l0e := Nat.le_of_lt l0); (try have l0f := Nat.le_add_right_of_le (k := 1) l0e); (try have l1 := Nat.lt_of_lt_of_le l1 (show _ ≤ w5.heap.size by omega)); (try have l1e := Nat.le_of_lt l1); (try have l1f := Nat.le_add_right_of_le (k := 1) l1e); (try have l2 := Nat.lt_of_lt_of_le l2 (show _ ≤ w5.heap.size by omega)); (try have l2e := Nat.le_of_lt l2); (try have l2f := Nat.le_add_right_of_le (k := 1) l2e); (try have l3 := Nat.lt_of_lt_of_le l3 (show _ ≤ w5.heap.size by omega)); (try have l3e := Nat.le_of_lt l3); (try have l3f := Nat.le_add_right_of_le (k := 1) l3e)
          have e5 := hE4.tr hb
          have g2 := e5.keep hb0 c2
          clear hc hf hz hb hf5 f0 f1 f2
          go_wp2
          go_loopw [6] (fun i wr => ∃ j : Nat, j ≤ L.length ∧ i = .int .i64 j ∧ AllTo (fun o : T3 => !(d && (decide (0 < o.c) && decide (wrN h o.b o.c = k)))) L j ∧ Ext w5 wr) (fun i _ => L.length - (intOf i).toNat)
          case atStart => exact ⟨0, Nat.zero_le _, rfl, AllTo.zero, Below.refl _ _⟩
          case round =>
            obtain ⟨j, hj, rfl, hall, hE6⟩ := hrel
            have HA6 := Lib.hid hall
            have e6 := e5.tr hE6
            have hz6 := e6.size
            clear hall
            by_cases hlt6 : j < L.length
            · obtain ⟨x0, x1, x2, b2, off2, hyk, rfl, _, hb2, d0, d1, d2⟩ := (hW.ext hE6).at_ hlt6
              have g3 := e6.keep hb0 c2
              have HY := Lib.hid hyk
              clear hyk
              cases d with
              | false =>
                have HS := Lib.hid (HA6.out.step HY.out (by simp))
                go_wp2
                go_big_quiet (fail)
                go_wp2
                exact ⟨⟨j + 1, by omega, by go_num, HS.out, below_drewN hE6 _⟩, by simp [intOf]; omega⟩
              | true =>
                by_cases h2 : 0 < x2
                · have hb9 : decide ((0 : Int) < x2) = true := decide_eq_true h2
                  have HS := Lib.hid (fun (hw : ¬ wrN h x1 x2 = k) => HA6.out.step HY.out (by simp [hw]))
                  have HT := Lib.hid (fun (hw : wrN h x1 x2 = k) => HRN.out HNB.out k ⟨s, ops, true⟩ HX.out rfl (by
                    rw [HL.out]
                    unfold rdB
                    rw [List.any_eq_true]
                    exact ⟨_, List.mem_of_getElem? HY.out, by simp [h2, hw]⟩))
                  have CW2 : Hid (∀ w, Txns S w (some ⟨b, off, none⟩) h → Calls Tryz.prog 60 #[.slice (some ⟨b, off, none⟩) h.length c, .int .i64 x1, .int .i64 x2] w fun e w' => e = .returned (.int .i64 (wrN h x1 x2)) ∧ Ext w w') := Lib.hid (fun w hx => CW.out x1 x2 w hx)
                  generalize wrN h x1 x2 = W at HS HT CW2
                  have l0d : b < wr.heap.size := by omega
                  go_wp2
                  refine wp_region_held_drew (S := fun W => W.cell? ⟨b, off + k * 3 + 2, none⟩ = some (.bool true) ∧ W.cell? ⟨b2, off2 + j * 3 + 1, none⟩ = some (.int .i64 x1) ∧ W.cell? ⟨b2, off2 + j * 3 + 2, none⟩ = some (.int .i64 x2)) (by kernel_rfl) ⟨g3, d1, d2⟩ (fun hHeld => ?_)
                  refine wpAnyH_take (i := 0) (oi := ?_) (v := ?_) ?_ ?_ ?_ ?_ ?_ ?_ hHeld ?_
                  rotate_left 2
                  · (simp only [List.getElem?_toArray, List.getElem?_cons_succ, List.getElem?_cons_zero]; rfl)
                  · kernel_rfl
                  · kernel_rfl
                  · kernel_rfl
                  · exact fun _ _ _ h => h
                  · refine Or.inl ⟨by rfl, ?_⟩
                    (intro w hSw; (try dsimp only at hSw); (try obtain ⟨qS0, qS1⟩ := hSw); go_simp; try (with_reducible rfl))
                  try simp only [Act.put, List.setIfInBounds_toArray, List.set_cons_zero, List.set_cons_succ]
                  refine wpAnyH_take (i := 1) (oi := ?_) (v := ?_) ?_ ?_ ?_ ?_ ?_ ?_ hHeld ?_
                  rotate_left 2
                  · (simp only [List.getElem?_toArray, List.getElem?_cons_succ, List.getElem?_cons_zero]; rfl)
                  · kernel_rfl
                  · kernel_rfl
                  · kernel_rfl
                  · exact fun _ _ _ h => h
                  · refine Or.inl ⟨by rfl, ?_⟩
                    (intro w hSw; (try dsimp only at hSw); (try obtain ⟨qS0, qS1⟩ := hSw); go_simp; try (with_reducible rfl))
                  try simp only [Act.put, List.setIfInBounds_toArray, List.set_cons_zero, List.set_cons_succ]
                  refine wpAnyH_take (i := 2) (oi := ?_) (v := ?_) ?_ ?_ ?_ ?_ ?_ ?_ hHeld ?_
                  rotate_left 2
                  · (simp only [List.getElem?_toArray, List.getElem?_cons_succ, List.getElem?_cons_zero]; rfl)
                  · kernel_rfl
                  · kernel_rfl
                  · kernel_rfl
                  · exact fun _ _ _ h => h
                  · refine Or.inl ⟨by rfl, ?_⟩
                    (intro w hSw; (try dsimp only at hSw); (try obtain ⟨qS0, qS1⟩ := hSw); go_simp; try (with_reducible rfl))
                  try simp only [Act.put, List.setIfInBounds_toArray, List.set_cons_zero, List.set_cons_succ]
                  refine wpAnyH_take (i := 3) (oi := ?_) (v := ?_) ?_ ?_ ?_ ?_ ?_ ?_ hHeld ?_
                  rotate_left 2
                  · (simp only [List.getElem?_toArray, List.getElem?_cons_succ, List.getElem?_cons_zero]; rfl)
                  · kernel_rfl
                  · kernel_rfl
                  · kernel_rfl
                  · exact fun _ _ _ h => h
                  · refine Or.inl ⟨by rfl, ?_⟩
                    (intro w hSw; (try dsimp only at hSw); (try obtain ⟨qS0, qS1⟩ := hSw); go_simp; try (with_reducible rfl))
                  try simp only [Act.put, List.setIfInBounds_toArray, List.set_cons_zero, List.set_cons_succ]
                  refine wpAnyH_take (i := 4) (oi := ?_) (v := ?_) ?_ ?_ ?_ ?_ ?_ ?_ hHeld ?_
                  rotate_left 2
                  · (simp only [List.getElem?_toArray, List.getElem?_cons_succ, List.getElem?_cons_zero]; rfl)
                  · kernel_rfl
                  · kernel_rfl
                  · kernel_rfl
                  · exact fun _ _ _ h => h
                  · refine Or.inl ⟨by rfl, ?_⟩
                    (intro w hSw; (try dsimp only at hSw); (try obtain ⟨qS0, qS1⟩ := hSw); go_simp; try (with_reducible rfl))
                  try simp only [Act.put, List.setIfInBounds_toArray, List.set_cons_zero, List.set_cons_succ]
                  refine wpAnyH_take (i := 5) (oi := ?_) (v := ?_) ?_ ?_ ?_ ?_ ?_ ?_ hHeld ?_
                  rotate_left 2
                  · (simp only [List.getElem?_toArray, List.getElem?_cons_succ, List.getElem?_cons_zero]; rfl)
                  · kernel_rfl
                  · kernel_rfl
                  · kernel_rfl
                  · exact fun _ _ _ h => h
                  · refine Or.inl ⟨by rfl, ?_⟩
                    (intro w hSw; (try dsimp only at hSw); (try obtain ⟨qS0, qS1⟩ := hSw); go_simp; try (with_reducible rfl))
                  try simp only [Act.put, List.setIfInBounds_toArray, List.set_cons_zero, List.set_cons_succ]
                  refine wpAnyH_take (i := 6) (oi := ?_) (v := ?_) ?_ ?_ ?_ ?_ ?_ ?_ hHeld ?_
                  rotate_left 2
                  · (simp only [List.getElem?_toArray, List.getElem?_cons_succ, List.getElem?_cons_zero]; rfl)
                  · kernel_rfl
                  · kernel_rfl
                  · kernel_rfl
                  · exact fun _ _ _ h => h
                  · refine Or.inl ⟨by rfl, ?_⟩
                    (intro w hSw; (try dsimp only at hSw); (try obtain ⟨qS0, qS1⟩ := hSw); go_simp; try (with_reducible rfl))
                  try simp only [Act.put, List.setIfInBounds_toArray, List.set_cons_zero, List.set_cons_succ]
                  refine wpAnyH_take (i := 7) (oi := ?_) (v := ?_) ?_ ?_ ?_ ?_ ?_ ?_ hHeld ?_
                  rotate_left 2
                  · (simp only [List.getElem?_toArray, List.getElem?_cons_succ, List.getElem?_cons_zero]; rfl)
                  · kernel_rfl
                  · kernel_rfl
                  · kernel_rfl
                  · exact fun _ _ _ h => h
                  · refine Or.inl ⟨by rfl, ?_⟩
                    (intro w hSw; (try dsimp only at hSw); (try obtain ⟨qS0, qS1⟩ := hSw); go_simp; try (with_reducible rfl))
                  try simp only [Act.put, List.setIfInBounds_toArray, List.set_cons_zero, List.set_cons_succ]
                  refine wpAnyH_take (i := 8) (oi := ?_) (v := ?_) ?_ ?_ ?_ ?_ ?_ ?_ hHeld ?_
                  rotate_left 2
                  · (simp only [List.getElem?_toArray, List.getElem?_cons_succ, List.getElem?_cons_zero]; rfl)
                  · kernel_rfl
                  · kernel_rfl
                  · kernel_rfl
                  · exact fun _ _ _ h => h
                  · refine Or.inl ⟨by rfl, ?_⟩
                    (intro w hSw; (try dsimp only at hSw); (try obtain ⟨qS0, qS1⟩ := hSw); go_simp; try (with_reducible rfl))
                  try simp only [Act.put, List.setIfInBounds_toArray, List.set_cons_zero, List.set_cons_succ]
                  refine wpAnyH_take (i := 9) (oi := ?_) (v := ?_) ?_ ?_ ?_ ?_ ?_ ?_ hHeld ?_
                  rotate_left 2
                  · (simp only [List.getElem?_toArray, List.getElem?_cons_succ, List.getElem?_cons_zero]; rfl)
                  · kernel_rfl
                  · kernel_rfl
                  · kernel_rfl
                  · exact fun _ _ _ h => h
                  · refine Or.inl ⟨by rfl, ?_⟩
                    (intro w hSw; (try dsimp only at hSw); (try obtain ⟨qS0, qS1⟩ := hSw); go_simp; try (with_reducible rfl))
                  try simp only [Act.put, List.setIfInBounds_toArray, List.set_cons_zero, List.set_cons_succ]
                  refine wpAnyH_take (i := 10) (oi := ?_) (v := ?_) ?_ ?_ ?_ ?_ ?_ ?_ hHeld ?_
                  rotate_left 2
                  · (simp only [List.getElem?_toArray, List.getElem?_cons_succ, List.getElem?_cons_zero]; rfl)
                  · kernel_rfl
                  · kernel_rfl
                  · kernel_rfl
                  · exact fun _ _ _ h => h
                  · refine Or.inl ⟨by rfl, ?_⟩
                    (intro w hSw; (try dsimp only at hSw); (try obtain ⟨qS0, qS1⟩ := hSw); go_simp; try (with_reducible rfl))
                  try simp only [Act.put, List.setIfInBounds_toArray, List.set_cons_zero, List.set_cons_succ]
                  refine wpAnyH_take (i := 11) (oi := ?_) (v := ?_) ?_ ?_ ?_ ?_ ?_ ?_ hHeld ?_
                  rotate_left 2
                  · (simp only [List.getElem?_toArray, List.getElem?_cons_succ, List.getElem?_cons_zero]; rfl)
                  · kernel_rfl
                  · kernel_rfl
                  · kernel_rfl
                  · exact fun _ _ _ h => h
                  · refine Or.inl ⟨by rfl, ?_⟩
                    (intro w hSw; (try dsimp only at hSw); (try obtain ⟨qS0, qS1⟩ := hSw); go_simp; try (with_reducible rfl))
                  try simp only [Act.put, List.setIfInBounds_toArray, List.set_cons_zero, List.set_cons_succ]
                  refine wpAnyH_take (i := 12) (oi := ?_) (v := ?_) ?_ ?_ ?_ ?_ ?_ ?_ hHeld ?_
                  rotate_left 2
                  · (simp only [List.getElem?_toArray, List.getElem?_cons_succ, List.getElem?_cons_zero]; rfl)
                  · kernel_rfl
                  · kernel_rfl
                  · kernel_rfl
                  · exact fun _ _ _ h => h
                  · refine Or.inl ⟨by rfl, ?_⟩
                    (intro w hSw; (try dsimp only at hSw); (try obtain ⟨qS0, qS1⟩ := hSw); go_simp; try (with_reducible rfl))
                  try simp only [Act.put, List.setIfInBounds_toArray, List.set_cons_zero, List.set_cons_succ]
                  refine wpAnyH_take (i := 13) (oi := ?_) (v := ?_) ?_ ?_ ?_ ?_ ?_ ?_ hHeld ?_
                  rotate_left 2
                  · (simp only [List.getElem?_toArray, List.getElem?_cons_succ, List.getElem?_cons_zero]; rfl)
                  · kernel_rfl
                  · kernel_rfl
                  · kernel_rfl
                  · exact fun _ _ _ h => h
                  · refine Or.inl ⟨by rfl, ?_⟩
                    (intro w hSw; (try dsimp only at hSw); (try obtain ⟨qS0, qS1⟩ := hSw); go_simp; try (with_reducible rfl))
                  try simp only [Act.put, List.setIfInBounds_toArray, List.set_cons_zero, List.set_cons_succ]
                  refine wpAnyH_take (i := 14) (oi := ?_) (v := ?_) ?_ ?_ ?_ ?_ ?_ ?_ hHeld ?_
                  rotate_left 2
                  · (simp only [List.getElem?_toArray, List.getElem?_cons_succ, List.getElem?_cons_zero]; rfl)
                  · kernel_rfl
                  · kernel_rfl
                  · kernel_rfl
                  · exact fun _ _ _ h => h
                  · refine Or.inl ⟨by rfl, ?_⟩
                    (intro w hSw; (try dsimp only at hSw); (try obtain ⟨qS0, qS1⟩ := hSw); go_simp; try (with_reducible rfl))
                  try simp only [Act.put, List.setIfInBounds_toArray, List.set_cons_zero, List.set_cons_succ]
                  refine wpAnyH_take (i := 15) (oi := ?_) (v := ?_) ?_ ?_ ?_ ?_ ?_ ?_ hHeld ?_
                  rotate_left 2
                  · (simp only [List.getElem?_toArray, List.getElem?_cons_succ, List.getElem?_cons_zero]; rfl)
                  · kernel_rfl
                  · kernel_rfl
                  · kernel_rfl
                  · exact fun _ _ _ h => h
                  · refine Or.inl ⟨by rfl, ?_⟩
                    (intro w hSw; (try dsimp only at hSw); (try obtain ⟨qS0, qS1⟩ := hSw); go_simp; try (with_reducible rfl))
                  try simp only [Act.put, List.setIfInBounds_toArray, List.set_cons_zero, List.set_cons_succ]
                  refine wpAnyH_take (i := 16) (oi := ?_) (v := ?_) ?_ ?_ ?_ ?_ ?_ ?_ hHeld ?_
                  rotate_left 2
                  · (simp only [List.getElem?_toArray, List.getElem?_cons_succ, List.getElem?_cons_zero]; rfl)
                  · kernel_rfl
                  · kernel_rfl
                  · kernel_rfl
                  · exact fun _ _ _ h => h
                  · refine Or.inl ⟨by rfl, ?_⟩
                    (intro w hSw; (try dsimp only at hSw); (try obtain ⟨qS0, qS1⟩ := hSw); go_simp; try (with_reducible rfl))
                  try simp only [Act.put, List.setIfInBounds_toArray, List.set_cons_zero, List.set_cons_succ]
                  refine wpAnyH_take (i := 17) (oi := ?_) (v := ?_) ?_ ?_ ?_ ?_ ?_ ?_ hHeld ?_
                  rotate_left 2
                  · (simp only [List.getElem?_toArray, List.getElem?_cons_succ, List.getElem?_cons_zero]; rfl)
                  · kernel_rfl
                  · kernel_rfl
                  · kernel_rfl
                  · exact fun _ _ _ h => h
                  · refine Or.inl ⟨by rfl, ?_⟩
                    (intro w hSw; (try dsimp only at hSw); (try obtain ⟨qS0, qS1⟩ := hSw); go_simp; try (with_reducible rfl))
                  try simp only [Act.put, List.setIfInBounds_toArray, List.set_cons_zero, List.set_cons_succ]
                  refine wpAnyH_take (i := 18) (oi := ?_) (v := ?_) ?_ ?_ ?_ ?_ ?_ ?_ hHeld ?_
                  rotate_left 2
                  · (simp only [List.getElem?_toArray, List.getElem?_cons_succ, List.getElem?_cons_zero]; rfl)
                  · kernel_rfl
                  · kernel_rfl
                  · kernel_rfl
                  · exact fun _ _ _ h => h
                  · refine Or.inl ⟨by rfl, ?_⟩
                    (intro w hSw; (try dsimp only at hSw); (try obtain ⟨qS0, qS1⟩ := hSw); go_simp; try (with_reducible rfl))
                  try simp only [Act.put, List.setIfInBounds_toArray, List.set_cons_zero, List.set_cons_succ]
                  refine wpAnyH_take (i := 19) (oi := ?_) (v := ?_) ?_ ?_ ?_ ?_ ?_ ?_ hHeld ?_
                  rotate_left 2
                  · (simp only [List.getElem?_toArray, List.getElem?_cons_succ, List.getElem?_cons_zero]; rfl)
                  · kernel_rfl
                  · kernel_rfl
                  · kernel_rfl
                  · exact fun _ _ _ h => h
                  · refine Or.inl ⟨by rfl, ?_⟩
                    (intro w hSw; (try dsimp only at hSw); (try obtain ⟨qS0, qS1⟩ := hSw); go_simp; try (with_reducible rfl))
                  try simp only [Act.put, List.setIfInBounds_toArray, List.set_cons_zero, List.set_cons_succ]
                  refine wpAnyH_take (i := 20) (oi := ?_) (v := ?_) ?_ ?_ ?_ ?_ ?_ ?_ hHeld ?_
                  rotate_left 2
                  · (simp only [List.getElem?_toArray, List.getElem?_cons_succ, List.getElem?_cons_zero]; rfl)
                  · kernel_rfl
                  · kernel_rfl
                  · kernel_rfl
                  · exact fun _ _ _ h => h
                  · refine Or.inl ⟨by rfl, ?_⟩
                    (intro w hSw; (try dsimp only at hSw); (try obtain ⟨qS0, qS1⟩ := hSw); go_simp; try (with_reducible rfl))
                  try simp only [Act.put, List.setIfInBounds_toArray, List.set_cons_zero, List.set_cons_succ]
                  refine wpAnyH_take (i := 21) (oi := ?_) (v := ?_) ?_ ?_ ?_ ?_ ?_ ?_ hHeld ?_
                  rotate_left 2
                  · (simp only [List.getElem?_toArray, List.getElem?_cons_succ, List.getElem?_cons_zero]; rfl)
                  · kernel_rfl
                  · kernel_rfl
                  · kernel_rfl
                  · exact fun _ _ _ h => h
                  · refine Or.inl ⟨by rfl, ?_⟩
                    (intro w hSw; (try dsimp only at hSw); (try obtain ⟨qS0, qS1⟩ := hSw); go_simp; try (with_reducible rfl))
                  try simp only [Act.put, List.setIfInBounds_toArray, List.set_cons_zero, List.set_cons_succ]
                  refine wpAnyH_take (i := 22) (oi := ?_) (v := ?_) ?_ ?_ ?_ ?_ ?_ ?_ hHeld ?_
                  rotate_left 2
                  · (simp only [List.getElem?_toArray, List.getElem?_cons_succ, List.getElem?_cons_zero]; rfl)
                  · kernel_rfl
                  · kernel_rfl
                  · kernel_rfl
                  · exact fun _ _ _ h => h
                  · refine Or.inl ⟨by rfl, ?_⟩
                    (intro w hSw; (try dsimp only at hSw); (try obtain ⟨qS0, qS1⟩ := hSw); go_simp; try (with_reducible rfl))
                  try simp only [Act.put, List.setIfInBounds_toArray, List.set_cons_zero, List.set_cons_succ]
                  refine wpAnyH_take (i := 23) (oi := ?_) (v := ?_) ?_ ?_ ?_ ?_ ?_ ?_ hHeld ?_
                  rotate_left 2
                  · (simp only [List.getElem?_toArray, List.getElem?_cons_succ, List.getElem?_cons_zero]; rfl)
                  · kernel_rfl
                  · kernel_rfl
                  · kernel_rfl
                  · exact fun _ _ _ h => h
                  · refine Or.inl ⟨by rfl, ?_⟩
                    (intro w hSw; (try dsimp only at hSw); (try obtain ⟨qS0, qS1⟩ := hSw); go_simp; try (with_reducible rfl))
                  try simp only [Act.put, List.setIfInBounds_toArray, List.set_cons_zero, List.set_cons_succ]
                  refine wpAnyH_take (i := 24) (oi := ?_) (v := ?_) ?_ ?_ ?_ ?_ ?_ ?_ hHeld ?_
                  rotate_left 2
                  · (simp only [List.getElem?_toArray, List.getElem?_cons_succ, List.getElem?_cons_zero]; rfl)
                  · kernel_rfl
                  · kernel_rfl
                  · kernel_rfl
                  · exact fun _ _ _ h => h
                  · refine Or.inl ⟨by rfl, ?_⟩
                    (intro w hSw; (try dsimp only at hSw); (try obtain ⟨qS0, qS1⟩ := hSw); go_simp; try (with_reducible rfl))
                  try simp only [Act.put, List.setIfInBounds_toArray, List.set_cons_zero, List.set_cons_succ]
                  refine wpAnyH_take (i := 26) (oi := ?_) (v := ?_) ?_ ?_ ?_ ?_ ?_ ?_ hHeld ?_
                  rotate_left 2
                  · (simp only [List.getElem?_toArray, List.getElem?_cons_succ, List.getElem?_cons_zero]; rfl)
                  · kernel_rfl
                  · kernel_rfl
                  · kernel_rfl
                  · exact fun _ _ _ h => h
                  · refine Or.inl ⟨by rfl, ?_⟩
                    (intro w hSw; (try dsimp only at hSw); (try obtain ⟨qS0, qS1⟩ := hSw); go_simp; try (with_reducible rfl))
                  try simp only [Act.put, List.setIfInBounds_toArray, List.set_cons_zero, List.set_cons_succ]
                  refine wpAnyH_ready (rs := [25]) (by kernel_rfl) (by simp) ?_
                  refine AllReadyH.cons rfl (fun K hK => ?_) AllReadyH.nil
                  go_simp
                  go_at_call 60
                  refine (CW2.out _ (hx.ext (e6.tr (by (repeat' (first | (with_reducible exact Below.refl _ _) | (with_reducible refine Below.mono (by assumption) ?_) | (with_reducible refine Below.trans ?_ (Below.mono (by assumption) ?_)) | (with_reducible refine Below.alloc ?_ ?_ _) | (with_reducible refine Below.drew ?_) | (with_reducible refine below_drewN ?_ _) | (with_reducible refine Below.setCell ?_ ?_ _) | (simp only [World.size_alloc, World.size_setCell, World.size_drew, size_drewN]; omega) | omega)))))).mono ?_
                  rintro e w8 ⟨rfl, hb⟩
                  have k8 : Ext wr w8 := Ext.tr (Below.drew (Below.refl _ _)) hb
                  have hE8 : Ext w5 w8 := hE6.tr k8
                  go_wp2_with (fail)
                  clear hHeld
                  refine hK.out _ _ ⟨k8.keep l0d g3, k8.keep hb2 d1, k8.keep hb2 d2⟩ (fun hHeld => ?_)
                  clear hK K
                  try simp only [Act.put, List.setIfInBounds_toArray, List.set_cons_zero, List.set_cons_succ]
                  refine wpAnyH_take (i := 27) (oi := ?_) (v := ?_) ?_ ?_ ?_ ?_ ?_ ?_ hHeld ?_
                  rotate_left 2
                  · (simp only [List.getElem?_toArray, List.getElem?_cons_succ, List.getElem?_cons_zero]; rfl)
                  · kernel_rfl
                  · kernel_rfl
                  · kernel_rfl
                  · exact fun _ _ _ h => h
                  · refine Or.inl ⟨by rfl, ?_⟩
                    (intro w hSw; (try dsimp only at hSw); (try obtain ⟨qS0, qS1⟩ := hSw); go_simp; try (with_reducible rfl))
                  try simp only [Act.put, List.setIfInBounds_toArray, List.set_cons_zero, List.set_cons_succ]
                  refine wpAnyH_take (i := 28) (oi := ?_) (v := ?_) ?_ ?_ ?_ ?_ ?_ ?_ hHeld ?_
                  rotate_left 2
                  · (simp only [List.getElem?_toArray, List.getElem?_cons_succ, List.getElem?_cons_zero]; rfl)
                  · kernel_rfl
                  · kernel_rfl
                  · kernel_rfl
                  · exact fun _ _ _ h => h
                  · refine Or.inl ⟨by rfl, ?_⟩
                    (intro w hSw; (try dsimp only at hSw); (try obtain ⟨qS0, qS1⟩ := hSw); go_simp; try (with_reducible rfl))
                  try simp only [Act.put, List.setIfInBounds_toArray, List.set_cons_zero, List.set_cons_succ]
                  refine wpAnyH_done (by kernel_rfl) ?_ _
                  go_wp2
                  · rename_i hw
                    have hw2 : W = k := by simpa using hw
                    have hr := HT.out hw2
                    have HR2 := Lib.hid hr
                    clear hr
                    go_ret
                    exact ⟨ret_bool (by rw [HR2.out]), e5.tr hE8⟩
                  · rename_i hw
                    have hw2 : ¬ W = k := by simpa using hw
                    exact ⟨⟨j + 1, by omega, by go_num, HS.out hw2, hE8⟩, by simp [intOf]; omega⟩
                · have hb9 : decide ((0 : Int) < x2) = false := decide_eq_false h2
                  have HS := Lib.hid (HA6.out.step HY.out (by simp [h2]))
                  clear h2
                  go_wp2
                  go_big_quiet (fail)
                  go_wp2
                  exact ⟨⟨j + 1, by omega, by go_num, HS.out, below_drewN hE6 _⟩, by simp [intOf]; omega⟩
            · obtain rfl : j = L.length := by omega
              have hal := HA6.out.all
              have hnx : ∀ i t, i < k + 1 → h[i]? = some t → (t.done && rdB h (i : Nat) (frL t)) = false := fun i t hi ht => by
                rcases Nat.lt_or_ge i k with h1 | h1
                · exact HA4.out i t h1 ht
                · obtain rfl : i = k := by omega
                  rw [HX.out] at ht
                  cases ht
                  rw [HL.out]
                  cases d with
                  | false => rfl
                  | true =>
                    unfold rdB
                    rw [Bool.true_and, List.any_eq_false]
                    intro o ho
                    have h9 := List.all_eq_true.1 hal o ho
                    simp at h9 ⊢
                    intro h8
                    rcases h9 with h9 | h9
                    · omega
                    · exact h9
              have HNX := Lib.hid hnx
              clear hnx hal
              go_wp2
              exact ⟨⟨k + 1, by omega, by go_num, HNX.out, e6⟩, by simp [intOf]; omega⟩
        · obtain rfl : k = h.length := by omega
          have hfin : HV = true → RR = true := fun hv => HRS.out hv HNB.out (fun j t ht => HA4.out j t (List.getElem?_eq_some_iff.1 ht).1 ht)
          have HF := Lib.hid hfin
          clear hfin
          go_wp2_with (fail)
          go_at_call 18
          refine (C.out _ (hx.ext hE4)).mono ?_
          rintro e w7 ⟨rfl, hb⟩
          obtain ⟨hc, hf, hz, hs⟩ := bcell hb
          (try simp only [World.size_alloc, World.size_setCell, World.size_drew, size_drewN] at hs); (first | have l0 := Nat.lt_of_lt_of_le l0 (show _ ≤ w7.heap.size by omega) | have l0 : w.heap.size < w7.heap.size := (by omega) | skip); (try have l0e := Nat.le_of_lt l0); (try have l0f := Nat.le_add_right_of_le (k := 1) l0e); (try have l1 := Nat.lt_of_lt_of_le l1 (show _ ≤ w7.heap.size by omega)); (try have l1e := Nat.le_of_lt l1); (try have l1f := Nat.le_add_right_of_le (k := 1) l1e); (try have l2 := Nat.lt_of_lt_of_le l2 (show _ ≤ w7.heap.size by omega)); (try have l2e := Nat.le_of_lt l2); (try have l2f := Nat.le_add_right_of_le (k := 1) l2e); (try have l3 := Nat.lt_of_lt_of_le l3 (show _ ≤ w7.heap.size by omega)); (try have l3e := Nat.le_of_lt l3); (try have l3f := Nat.le_add_right_of_le (k := 1) l3e)
          have hfe : HV = RR := by
            cases hh : HV with
            | false => exact (HRV.out hh).symm
            | true => exact (HF.out hh).symm
          have HFE := Lib.hid hfe
          clear hfe
          go_wp2
          go_ret
          exact ⟨ret_bool (by rw [HFE.out]), hE4.tr hb⟩
end Go.Proofs.YtmbdacfgmiielaaGreat
